import Derived.Test.YtfkmngmnnlgjdaaGfB
import Derived.Test.YtfkmngmnnlgjdaaGfA
import Derived.Test.YtfkmngmnnlgjdaaPkP1
/- The walk of Shell. -/
namespace Go.Proofs.Ytfkmngmnnlgjdaa.Gr
open Go Go.RowKit Go.Proofs.Ytfkmngmnnlgjdaa.Gf Go.Proofs.Ytfkmngmnnlgjdaa.Pu Go.Proofs.Ytfkmngmnnlgjdaa.Mw Go.Proofs.YtfkmngmnnlgjdaaW.PrintWords Go.Proofs.YtfkmngmnnlgjdaaW.PrintLast Go.Proofs.YtfkmngmnnlgjdaaW.PrintMore
set_option linter.unusedVariables false
set_option linter.unusedSimpArgs false

theorem zeroI (w : World) : (zeroValue 3).run Try.prog w = .ok (.int .i64 0) w := by kernel_rfl
theorem zeroB (w : World) : (zeroValue 4).run Try.prog w = .ok (.bool false) w := by kernel_rfl
/-- map[int]int, map[int]bool. -/
noncomputable def MII : MK Try.prog Int Int := intInt Try.prog 3 3 67 Try.underlying3 Try.underlying3 Try.underlying67 zeroI
noncomputable def MIB : MK Try.prog Int Bool := intBool Try.prog 3 4 65 Try.underlying3 Try.underlying4 Try.underlying65 zeroB
theorem okI {k : Nat} (h : k ≤ 400) : MII.ok (k : Int) := wf64 (by omega) (by omega)
theorem okB {k : Nat} (h : k ≤ 400) : MIB.ok (k : Int) := wf64 (by omega) (by omega)
/-- A map's block is no row's. -/
theorem MIs.ne_row {κ ε : Type} {M : MK Try.prog κ ε} {w : World} {b m : Nat} {f : κ → Option ε} (h : MIs M w b m f) {α : Type} {d : Kd α} {e base : Nat} {ok : Nat → Prop} {v : Value} {xs : List α} (hR : d.R e w base ok v xs) : some b ≠ v.ownBlock := by
  intro he
  obtain ⟨inner, ho⟩ := Kd.R_own hR
  obtain ⟨cells, hc⟩ := own_typed ho b he.symm
  obtain ⟨D, ⟨es, clock, hb, _⟩, _⟩ := h
  rw [hb] at hc
  cases hc
/-- What Near tells at a node. -/
theorem Near_nat (w : World) (g : Nat) (v : Value) (n : Nat) (adj : Adj) (a : Nat) (h : GIs w g v n adj) (ha : a < n) :
    Calls Try.prog 19 #[.pointer (some ⟨g, 0, none⟩), .int .i64 a] w fun e w' => ∃ A c, e = .returned (.slice A (near n adj a).length c) ∧ (Kd.int .i64).R 3 w' w.heap.size (fun _ => True) (.slice A (near n adj a).length c) (nats (near n adj a)) ∧ Below w.heap.size w w' := by
  refine (Near_is w g v n adj (a : Int) h).mono ?_
  rintro e w' ⟨v', he, hR, hB⟩
  have hn : nearI n adj (a : Int) = nats (near n adj a) := by unfold nearI; rw [if_pos (by simp [isN]; omega), Int.toNat_natCast]
  rw [hn] at hR
  obtain ⟨A, c, rfl⟩ := Kd.R_slice hR
  rw [nats_length] at he hR
  exact ⟨A, c, he, hR, hB⟩
theorem near_len (n : Nat) (adj : Adj) (a : Nat) : (near n adj a).length ≤ n := by
  unfold near
  exact Nat.le_trans (List.length_filter_le _ _) (by rw [List.length_range]; exact Nat.le_refl _)

def lenV : Value → Nat
  | .slice _ m _ => m
  | _ => 0
set_option maxRecDepth 100000 in
set_option maxHeartbeats 4000000 in
theorem Shell_is (w : World) (g n : Nat) (v : Value) (adj : Adj) (h : GIs w g v n adj) :
    Calls Try.prog 26 #[.pointer (some ⟨g, 0, none⟩)] w fun e w' => ∃ v', e = .returned v' ∧ (Kd.int .i64).R 3 w' w.heap.size (fun _ => True) v' (nats (shell n adj)) ∧ Below w.heap.size w w' := by
  have hn4 := h.le
  have hS := h.sane
  have H := Lib.hid h
  clear h
  have hmm := @run_makeMap Try.prog
  go_enter Try.func26, Try.ntmps26
  go_wp2_with (go_at_call 11; refine (Len_is _ g v n adj (H.out.below (below_alloc (Below.refl _ _) _))).mono ?_; rintro e w' ⟨rfl, rfl⟩)
  go_loopw [17] (fun v17 wr => ∃ (k : Nat) (f : Int → Option Int), k ≤ n ∧ v17 = .int .i64 k ∧ Aside0 (ShI n adj k f) ∧ Aside0 (MIs MII wr w.heap.size k f) ∧ Aside0 (Below w.heap.size w wr)) (fun v17 _ => n - (intOf v17).toNat)
  case atStart => exact ⟨0, fun _ => none, Nat.zero_le _, rfl, ⟨ShI.start n adj⟩, ⟨MIs.made MII w⟩, ⟨below_alloc (Below.refl _ _) _⟩⟩
  case round =>
    clear hmm
    obtain ⟨k, f, hk, rfl, HF, HM, HB⟩ := hrel
    by_cases hlt : k < n
    · have hl := near_len n adj k
      go_wp2_with (first
        | (go_at_call 19; refine (Near_nat wr g v n adj k (H.out.below HB.out) hlt).mono ?_; rintro e w1 ⟨A1, c1, rfl, hR1, hB1⟩; have HM1 := Aside0.mk (HM.out.below hB1 HM.out.lt); have HB1 := Aside0.mk (below_then HB.out HB.out.size hB1); clear HM HB)
        | (at_mapUpdate; refine wl_put HM1.out rfl _ _ _ rfl rfl (by unfold maxLen; omega) (k : Int) (okI (by omega)) rfl (((near n adj k).length : Nat) : Int) (okI (by omega)) rfl ?_; intro w2 hM2 hg2))
      rw [HF.out.fresh] at hM2
      exact ⟨⟨k + 1, _, by omega, by go_num, ⟨HF.out.step⟩, ⟨hM2⟩, ⟨HB1.out.grown hg2 HB1.out.size (fun q e => by cases e; exact Nat.le_refl _)⟩⟩, by simp [intOf]; omega⟩
    · obtain rfl : k = n := by omega
      have HF1 := Aside0.mk HF.out.all
      clear HF
      go_wp2
      go_loopw [5] (fun v5 wr' => ∃ (j : Nat) (f : Int → Option Int) (A : Option Addr) (c : Nat), j ≤ k ∧ v5 = .slice A j c ∧ Aside0 (Sh k adj (shl k adj j) f) ∧ Aside0 (MIs MII wr' w.heap.size (k - j) f) ∧ Aside0 ((Kd.int .i64).R 3 wr' w.heap.size (fun _ => True) (.slice A j c) (nats (shl k adj j))) ∧ Aside0 (Below w.heap.size w wr')) (fun v5 _ => k - lenV v5)
      case atStart => exact ⟨0, f, none, 0, Nat.zero_le _, rfl, HF1, HM, ⟨Kd.R_nil _ _ _ _ _⟩, HB⟩
      case round =>
        clear HF1 HM HB f
        obtain ⟨j, f, A5, c5, hj, rfl, HF, HM, HR5, HB⟩ := hrel
        by_cases hlt2 : j < k
        · have hpos : decide ((0 : Int) < ((k - j : Nat) : Int)) = true := decide_eq_true (by omega)
          go_wp2_with (first
            | ((with_reducible refine gate_builtin (b := .len) (xs := #[.tmp 27]) rfl ?_); refine wl_len HM.out rfl _ rfl rfl ?_)
            | (go_at_call 11; refine (Len_is _ g v _ adj (H.out.below HB.out)).mono ?_; rintro e w' ⟨rfl, rfl⟩))
          go_loopw [6, 32] (fun v6 v32 wr' => ∃ i : Nat, i ≤ k ∧ v32 = .int .i64 i ∧ v6 = .int .i64 (bestI (bst k adj (shl k adj j) i)) ∧ Aside0 (MIs MII wr' w.heap.size (k - j) f) ∧ Aside0 ((Kd.int .i64).R 3 wr' w.heap.size (fun _ => True) (.slice A5 j c5) (nats (shl k adj j))) ∧ Aside0 (Below w.heap.size w wr')) (fun _ v32 _ => k - (intOf v32).toNat)
          case atStart => exact ⟨0, Nat.zero_le _, rfl, rfl, HM, HR5, HB⟩
          case round =>
            clear HM HB HR5 hpos
            obtain ⟨i, hi, rfl, rfl, HM, HR5, HB⟩ := hrel
            by_cases hlt3 : i < k
            · cases hout : (shl k adj j).contains i with
              | true =>
                have hfi := HF.out.no hout
                have hb : bst k adj (shl k adj j) (i + 1) = bst k adj (shl k adj j) i := by simp only [bst, hout, if_true]
                have HBt := Aside0.mk hb
                clear hb
                go_wp2_with (first
                  | (at_lookup; refine wl_ok1 HM.out rfl _ _ rfl rfl (i : Int) (okI (by omega)) rfl 0 (by rw [hfi]; rfl) false (by rw [hfi]; rfl) (.int .i64 0) rfl ?_))
                exact ⟨⟨i + 1, by omega, by go_num, by rw [HBt.out], HM, HR5, HB⟩, by simp [intOf]; omega⟩
              | false =>
                have hfi := HF.out.yes hlt3 hout
                cases hb0 : bst k adj (shl k adj j) i with
                | none =>
                  have hb : bst k adj (shl k adj j) (i + 1) = some i := by simp only [bst, hout, hb0]; rfl
                  have HBt := Aside0.mk hb
                  clear hb hb0
                  go_wp2_with (first
                    | (at_lookup; refine wl_ok1 HM.out rfl _ _ rfl rfl (i : Int) (okI (by omega)) rfl ((deg k adj (shl k adj j) i : Nat) : Int) (by rw [hfi]; rfl) true (by rw [hfi]; rfl) (.int .i64 ((deg k adj (shl k adj j) i : Nat) : Int)) rfl ?_))
                  exact ⟨⟨i + 1, by omega, by go_num, by rw [HBt.out]; rfl, HM, HR5, HB⟩, by simp [intOf]; omega⟩
                | some q =>
                  obtain ⟨hq1, hq2, _⟩ := bst_some hb0
                  have hfq := HF.out.yes (by omega) hq2
                  have hlk := HM.out.run_look (q : Int) (okI (by omega))
                  rw [hfq] at hlk
                  replace hlk : (Instr.lookup 67 (.map (some w.heap.size)) (.int .i64 (q : Int)) false).run Try.prog wr = .ok (.int .i64 ((deg k adj (shl k adj j) q : Nat) : Int)) wr := hlk
                  rw [show bestI (some q) = (q : Int) from rfl]
                  have hq0 : decide ((q : Int) < 0) = false := decide_eq_false (by omega)
                  by_cases hlq : deg k adj (shl k adj j) i < deg k adj (shl k adj j) q
                  · have hb : bst k adj (shl k adj j) (i + 1) = some i := by simp only [bst, hout, hb0]; simp [hlq]
                    have hlq' : decide (((deg k adj (shl k adj j) i : Nat) : Int) < ((deg k adj (shl k adj j) q : Nat) : Int)) = true := decide_eq_true (by omega)
                    have HBt := Aside0.mk hb
                    clear hb hb0
                    go_wp2_with (first
                      | (at_lookup; refine wl_ok1 HM.out rfl _ _ rfl rfl (i : Int) (okI (by omega)) rfl ((deg k adj (shl k adj j) i : Nat) : Int) (by rw [hfi]; rfl) true (by rw [hfi]; rfl) (.int .i64 ((deg k adj (shl k adj j) i : Nat) : Int)) rfl ?_))
                    exact ⟨⟨i + 1, by omega, by go_num, by rw [HBt.out]; rfl, HM, HR5, HB⟩, by simp [intOf]; omega⟩
                  · have hb : bst k adj (shl k adj j) (i + 1) = some q := by simp only [bst, hout, hb0]; simp [hlq]
                    have hlq' : decide (((deg k adj (shl k adj j) i : Nat) : Int) < ((deg k adj (shl k adj j) q : Nat) : Int)) = false := decide_eq_false (by omega)
                    have HBt := Aside0.mk hb
                    clear hb hb0
                    go_wp2_with (first
                      | (at_lookup; refine wl_ok1 HM.out rfl _ _ rfl rfl (i : Int) (okI (by omega)) rfl ((deg k adj (shl k adj j) i : Nat) : Int) (by rw [hfi]; rfl) true (by rw [hfi]; rfl) (.int .i64 ((deg k adj (shl k adj j) i : Nat) : Int)) rfl ?_))
                    exact ⟨⟨i + 1, by omega, by go_num, by rw [HBt.out]; rfl, HM, HR5, HB⟩, by simp [intOf]; omega⟩
            · obtain rfl : i = k := by omega
              obtain ⟨q, hs, hb⟩ := shl_succ (adj := adj) hlt2
              rw [hb, show bestI (some q) = (q : Int) from rfl]
              obtain ⟨hq1, hq2, _⟩ := bst_some hb
              have hfq := HF.out.yes hq1 hq2
              have HSh := Aside0.mk hs
              have hll := shl_length i adj j
              have hbs : ∀ x : Value, Aside0 (x = x) := fun _ => ⟨rfl⟩
              clear hbs hs hb
              go_wp2_with (first
                | ((with_reducible refine gate_builtin (b := .delete) (xs := #[.tmp 55, .tmp 56]) rfl ?_); refine wl_del HM.out rfl _ _ rfl rfl (q : Int) (okI (by omega)) rfl ?_; intro w2 hM2 hg2; have HR6 := Aside0.mk (Kd.R_grown1 HR5.out rfl hg2 (MIs.ne_row HM.out HR5.out)); have HB2 := Aside0.mk (HB.out.grown hg2 HB.out.size (fun q e => by cases e; exact Nat.le_refl _)); rw [hfq] at hM2; have HM2 := Aside0.mk hM2; clear HM HR5 HB hM2 hg2)
                | ((with_reducible refine gate_builtin (b := .append) (xs := #[.tmp 57, .tmp 59]) rfl ?_); refine Kd.R_append (Kd.int .i64) (w0 := w) w.heap.size rfl (.tmp 57) (.tmp 59) 38 3 (.int .i64 0) 8 rfl Try.underlying38 infoI rfl (by decide) (by omega) (.slice A5 j c5) (nats (shl i adj j)) (q : Int) [.int .i64 q] (fun _ => True) (fun _ => False) rfl rfl rfl (fun _ hk => hk.elim) (fun _ _ => trivial) (by (with_reducible repeat (first | apply Kd.R_alloc | apply Kd.R_drewN | apply Kd.R_drew)); exact HR6.out) (by repeat (first | (with_reducible first | exact HB2.out | apply below_alloc | apply pw_below_drewN | apply below_drew1) | exact HB2.out)) (below_size (by repeat (first | (with_reducible first | exact HB2.out | apply below_alloc | apply pw_below_drewN | apply below_drew1) | exact HB2.out))) (by rw [nats_length, hll]; omega) ?_; intro v1 w3 hR3 hB3 hg3 hat3; have HM3 := Aside0.mk (MIs.kept (w := _) (b := w.heap.size) (M := MII) (by (with_reducible repeat (first | apply MIs.alloc | apply MIs.drewN | apply MIs.drew)); exact HM2.out) hg3 (MIs.ne_row HM2.out HR6.out)); rw [show nats (shl i adj j) ++ [(q : Int)] = nats (shl i adj (j + 1)) by rw [HSh.out]; simp [nats]] at hR3; have HR7 := Aside0.mk hR3; have HB4 := Aside0.mk hB3; clear HM2 HR6 HB2 hR3 hB3 hg3 hat3)
                | (go_at_call 19; refine (Near_nat _ g v i adj q (H.out.below HB4.out) hq1).mono ?_; rintro e w4 ⟨A6, c6, rfl, hR6, hB6⟩; have HM5 := Aside0.mk (HM3.out.below hB6 HM3.out.lt); have HR8 := Aside0.mk (Kd.R_below HR7.out hB6); have HB7 := Aside0.mk (below_then HB4.out HB4.out.size hB6); have HN := Aside0.mk hR6; clear HM3 HR7 HB4 hR6 hB6))
              obtain ⟨A1, c1, rfl⟩ : ∃ A c, v1 = .slice A (j + 1) c := by
                obtain ⟨A, c, h⟩ := Kd.R_slice HR8.out
                rw [nats_length, shl_length] at h
                exact ⟨A, c, h⟩
              have HD0 := Aside0.mk (HF.out.del q)
              have hnl := near_len i adj q
              have hnd := near_nodup i adj q
              generalize hL : near i adj q = L at HN hnl hnd ⊢
              go_loopw [65] (fun v65 wr' => ∃ (t : Nat) (f' : Int → Option Int), t ≤ L.length ∧ v65 = .int .i64 t ∧ Aside0 (ShD i adj (shl i adj j) q (L.take t) f') ∧ Aside0 (MIs MII wr' w.heap.size (i - j - 1) f') ∧ Aside0 ((Kd.int .i64).R 3 wr' w.heap.size (fun _ => True) (.slice A1 (j + 1) c1) (nats (shl i adj (j + 1)))) ∧ Aside0 ((Kd.int .i64).R 3 wr' 0 (fun _ => True) (.slice A6 L.length c6) (nats L)) ∧ Aside0 (Below w.heap.size w wr')) (fun v65 _ => L.length - (intOf v65).toNat)
              case atStart => exact ⟨0, _, Nat.zero_le _, rfl, HD0, HM5, HR8, ⟨Kd.R_lower HN.out (Nat.zero_le _)⟩, HB7⟩
              case round =>
                clear HF HM5 HR8 HN HB7 HD0 hfq
                obtain ⟨t, f', ht, rfl, HF, HM, HR, HC, HB⟩ := hrel
                by_cases hlt4 : t < L.length
                · have HCC := (Kd.R_reads' HC.out).2.2
                  rw [nats_length] at HCC
                  obtain ⟨ad, rfl, hcell⟩ := Kd.at_int HCC (t : Int) (by omega) (by omega)
                  rw [rd_nat, getD_nats L t hlt4, Int.toNat_natCast] at hcell
                  have hbm : L.getD t 0 ∈ near i adj q := by rw [hL]; exact getD_mem L t hlt4
                  have hqb := (mem_near hS).1 hbm
                  have hbn : L.getD t 0 < i := hS.lt2 hqb
                  have hnt := not_in_take hnd hlt4
                  have htk := take_succ_getD L t hlt4
                  generalize L.getD t 0 = b at hcell hbm hqb hbn hnt htk
                  cases hfb : f' (b : Int) with
                  | none =>
                    go_wp2_with (first
                      | (at_lookup; refine wl_ok1 HM.out rfl _ _ rfl rfl (b : Int) (okI (by omega)) rfl 0 (by rw [hfb]; rfl) false (by rw [hfb]; rfl) (.int .i64 0) rfl ?_))
                    exact ⟨⟨t + 1, f', by omega, by go_num, ⟨by rw [htk]; exact HF.out.skip hfb⟩, HM, HR, HC, HB⟩, by simp [intOf]; omega⟩
                  | some d =>
                    obtain ⟨hd1, hd2, hd3⟩ := HF.out.told hS hq2 hqb hnt hfb
                    have HD3 := Aside0.mk hd3
                    clear hd3
                    go_wp2_with (first
                      | (at_lookup; refine wl_ok1 HM.out rfl _ _ rfl rfl (b : Int) (okI (by omega)) rfl d (by rw [hfb]; rfl) true (by rw [hfb]; rfl) (.int .i64 d) rfl ?_)
                      | (at_lookup; refine wl_look1 HM.out rfl _ _ rfl rfl (b : Int) (okI (by omega)) rfl d (by rw [hfb]; rfl) (.int .i64 d) rfl ?_)
                      | (at_mapUpdate; refine wl_put HM.out rfl _ _ _ rfl rfl (by unfold maxLen; omega) (b : Int) (okI (by omega)) rfl (d - 1) (wf64 (by omega) (by omega)) rfl ?_; intro w2 hM2 hg2))
                    rw [hfb] at hM2
                    have HR2 := Aside0.mk (Kd.R_grown1 HR.out rfl hg2 (MIs.ne_row HM.out HR.out))
                    have HC2 := Aside0.mk (Kd.R_grown1 HC.out rfl hg2 (MIs.ne_row HM.out HC.out))
                    exact ⟨⟨t + 1, _, by omega, by go_num, ⟨by rw [htk]; exact HD3.out⟩, ⟨hM2⟩, HR2, HC2, ⟨HB.out.grown hg2 HB.out.size (fun q e => by cases e; exact Nat.le_refl _)⟩⟩, by simp [intOf]; omega⟩
                · obtain rfl : t = L.length := by omega
                  go_wp2
                  exact ⟨⟨j + 1, f', A1, c1, by omega, rfl, ⟨by rw [HSh.out]; rw [List.take_length, ← hL] at HF; exact HF.out.over hS hq2⟩, ⟨by rw [show i - (j + 1) = i - j - 1 by omega]; exact HM.out⟩, HR, HB⟩, by simp [lenV]; omega⟩
        · obtain rfl : j = k := by omega
          have hpos : decide ((0 : Int) < ((j - j : Nat) : Int)) = false := decide_eq_false (by omega)
          go_wp2_with (first
            | ((with_reducible refine gate_builtin (b := .len) (xs := #[.tmp 27]) rfl ?_); refine wl_len HM.out rfl _ rfl rfl ?_))
          go_ret
          exact ⟨_, rfl, HR5.out, HB.out⟩
end Go.Proofs.Ytfkmngmnnlgjdaa.Gr

/- Plain facts for the walk of Parts: what the map of the nodes that are left holds. -/
namespace Go.Proofs.Ytfkmngmnnlgjdaa.Pu
open Go.Proofs.Ytfkmngmnnlgjdaa.Mw

/-- The first k nodes are left. -/
def LI (k : Nat) (f : Int → Option Bool) : Prop := ∀ a : Nat, f (a : Int) = if a < k then some true else none
/-- What is left: the nodes that J does not hold. -/
def Lf (n : Nat) (J : Nat → Bool) (f : Int → Option Bool) : Prop := ∀ a : Nat, f (a : Int) = if a < n ∧ J a = false then some true else none
theorem LI.start : LI 0 (fun _ => none) := fun a => by simp
theorem updB_same {f : Int → Option Bool} {a : Int} {x : Option Bool} : upd f a x a = x := by simp [upd]
theorem updB_other {f : Int → Option Bool} {a b : Nat} {x : Option Bool} (h : b ≠ a) : upd f (a : Int) x (b : Int) = f (b : Int) := by
  unfold upd
  rw [if_neg (by omega)]
theorem LI.fresh {k : Nat} {f : Int → Option Bool} (h : LI k f) : f (k : Int) = none := by rw [h k, if_neg (by omega)]
theorem LI.step {k : Nat} {f : Int → Option Bool} (h : LI k f) : LI (k + 1) (upd f (k : Int) (some true)) := by
  intro a
  by_cases e : a = k
  · subst e
    rw [updB_same, if_pos (by omega)]
  · rw [updB_other e, h a]
    by_cases h1 : a < k
    · rw [if_pos h1, if_pos (by omega)]
    · rw [if_neg h1, if_neg (by omega)]
theorem LI.all {n : Nat} {f : Int → Option Bool} (h : LI n f) : Lf n (fun _ => false) f := by
  intro a
  rw [h a]
  by_cases h1 : a < n
  · rw [if_pos h1, if_pos ⟨h1, rfl⟩]
  · rw [if_neg h1, if_neg (fun h2 => h1 h2.1)]
theorem Lf.del {n : Nat} {J : Nat → Bool} {f : Int → Option Bool} (h : Lf n J f) (q : Nat) : Lf n (also J q) (upd f (q : Int) none) := by
  intro a
  by_cases e : a = q
  · subst e
    rw [updB_same, if_neg]
    rw [also_self]
    intro h1
    cases h1.2
  · rw [updB_other e, h a]
    have hc : also J q a = J a := by simp [also, e]
    rw [hc]
theorem Lf.yes {n : Nat} {J : Nat → Bool} {f : Int → Option Bool} (h : Lf n J f) {a : Nat} (ha : a < n) (hJ : J a = false) : f (a : Int) = some true := by rw [h a, if_pos ⟨ha, hJ⟩]
theorem Lf.no {n : Nat} {J : Nat → Bool} {f : Int → Option Bool} (h : Lf n J f) {a : Nat} (hJ : J a = true) : f (a : Int) = none := by
  rw [h a, if_neg]
  rintro ⟨_, h2⟩
  rw [hJ] at h2
  cases h2
/-- Two sets in one. -/
def both (o I : Nat → Bool) : Nat → Bool := fun x => o x || I x
theorem both_also (o I : Nat → Bool) (b : Nat) : also (both o I) b = both o (also I b) := by
  funext x
  simp only [also, both, Bool.or_assoc]
theorem both_one (o : Nat → Bool) (b : Nat) : also o b = both o (fun x => x == b) := rfl
/-- What is gone once all nodes below k have been looked at. -/
def Gone (adj : Adj) (k : Nat) (o : Nat → Bool) : Prop := ∀ x, o x = true ↔ ∃ c, c < k ∧ Reach adj c x
theorem Gone.start (adj : Adj) : Gone adj 0 (fun _ => false) := fun x => ⟨fun h => (by cases h), fun ⟨c, hc, _⟩ => (by omega)⟩
theorem Gone.least {adj : Adj} {k : Nat} {o : Nat → Bool} (h : Gone adj k o) (ho : o k = false) : Least adj k := by
  intro b hb hr
  have := (h k).2 ⟨b, hb, hr⟩
  rw [ho] at this
  cases this
theorem Gone.more {adj : Adj} {k : Nat} {o : Nat → Bool} (h : Gone adj k o) (ho : o k = true) : ¬ Least adj k ∧ Gone adj (k + 1) o := by
  obtain ⟨c, hc, hr⟩ := (h k).1 ho
  refine ⟨fun hL => hL c hc hr, fun x => ⟨fun hx => ?_, fun ⟨d, hd, hx⟩ => ?_⟩⟩
  · obtain ⟨d, hd, hx⟩ := (h x).1 hx
    exact ⟨d, by omega, hx⟩
  · by_cases e : d = k
    · subst e
      exact (h x).2 ⟨c, hc, hr.trans hx⟩
    · exact (h x).2 ⟨d, by omega, hx⟩
theorem Gone.over {adj : Adj} {k : Nat} {o I : Nat → Bool} (h : Gone adj k o) (hI : ∀ b, I b = true ↔ Reach adj k b) : Gone adj (k + 1) (both o I) := by
  intro x
  unfold both
  rw [Bool.or_eq_true]
  constructor
  · rintro (hx | hx)
    · obtain ⟨d, hd, hr⟩ := (h x).1 hx
      exact ⟨d, by omega, hr⟩
    · exact ⟨k, by omega, (hI x).1 hx⟩
  · rintro ⟨d, hd, hr⟩
    by_cases e : d = k
    · subst e
      exact Or.inr ((hI x).2 hr)
    · exact Or.inl ((h x).2 ⟨d, by omega, hr⟩)
/-- A node of this part is in no part found before. -/
theorem Gone.apart {n : Nat} {adj : Adj} (hS : Sane n adj) {k : Nat} {o : Nat → Bool} (h : Gone adj k o) (ho : o k = false) {b : Nat} (hr : Reach adj k b) : o b = false := by
  cases hb : o b with
  | false => rfl
  | true =>
    obtain ⟨c, hc, hcb⟩ := (h b).1 hb
    exact absurd (hcb.trans (hr.symm hS)) (h.least ho c hc)
theorem both_new {n : Nat} {adj : Adj} (hS : Sane n adj) {k : Nat} {o I : Nat → Bool} (h : Gone adj k o) (ho : o k = false) {b : Nat} (hr : Reach adj k b) (hI : I b = false) : both o I b = false := by
  unfold both
  rw [h.apart hS ho hr, hI]
  rfl
theorem both_old {o I : Nat → Bool} {b : Nat} (hI : I b = true) : both o I b = true := by
  unfold both
  rw [hI, Bool.or_true]
end Go.Proofs.Ytfkmngmnnlgjdaa.Pu

/- The walk of Parts. -/
namespace Go.Proofs.Ytfkmngmnnlgjdaa.Gr
open Go Go.RowKit Go.Proofs.Ytfkmngmnnlgjdaa.Gf Go.Proofs.Ytfkmngmnnlgjdaa.Pu Go.Proofs.Ytfkmngmnnlgjdaa.Mw Go.Proofs.YtfkmngmnnlgjdaaW.PrintWords Go.Proofs.YtfkmngmnnlgjdaaW.PrintLast Go.Proofs.YtfkmngmnnlgjdaaW.PrintMore
set_option linter.unusedVariables false
set_option linter.unusedSimpArgs false

theorem MIs.cells {κ ε : Type} {M : MK Try.prog κ ε} {w : World} {b m : Nat} {f : κ → Option ε} (h : MIs M w b m f) {k : Nat} {cells : Array Value} {t : TypeId} (hc : w.heap[k]? = some (.cells cells t (0, 0))) : k ≠ b := by
  rintro rfl
  obtain ⟨D, ⟨es, clock, hb, _⟩, _⟩ := h
  rw [hb] at hc
  cases hc
theorem MIs.row_kept {κ ε : Type} {M : MK Try.prog κ ε} {w w1 : World} {b m : Nat} {f : κ → Option ε} (h : MIs M w b m f) {α : Type} {d : Kd α} {e base : Nat} {ok : Nat → Prop} {v : Value} {xs : List α} (hR : d.R e w base ok v xs) (hg : w.grownBy w1 (some b)) : d.R e w1 base ok v xs :=
  Kd.R_mono (Kd.R_grown (ok := fun k => ok k ∧ k ≠ b) (Kd.R_mono (Kd.R_bound hR) (fun k hk => ⟨hk.1, by obtain ⟨_, _, _, q, _, cells, hc⟩ := hk; exact MIs.cells h hc⟩)) hg (fun k hk e => hk.2 (by injection e))) (fun _ hk => hk.1)
theorem MIs.q_kept {κ ε : Type} {M : MK Try.prog κ ε} {w w1 : World} {b m : Nat} {f : κ → Option ε} (h : MIs M w b m f) {α : Type} {d : Kd α} {e base : Nat} {ok : Nat → Prop} {v : Value} {xs : List α} (hR : d.Q e w base ok v xs) (hg : w.grownBy w1 (some b)) : d.Q e w1 base ok v xs :=
  Kd.Q_mono (Kd.Q_grown (ok := fun k => ok k ∧ k ≠ b) (Kd.Q_mono (Kd.Q_bound hR) (fun k hk => ⟨hk.1, by obtain ⟨_, _, _, q, _, cells, hc⟩ := hk; exact MIs.cells h hc⟩)) hg (fun k hk e => hk.2 (by injection e))) (fun _ hk => hk.1)
theorem MIs.ne_q {κ ε : Type} {M : MK Try.prog κ ε} {w : World} {b m : Nat} {f : κ → Option ε} (h : MIs M w b m f) {α : Type} {d : Kd α} {e base : Nat} {ok : Nat → Prop} {v : Value} {xs : List α} (hR : d.Q e w base ok v xs) : some b ≠ v.ownBlock := by
  intro he
  obtain ⟨_, inner, ho, _⟩ := hR
  obtain ⟨_, cells, hc⟩ := q_typed ho b he.symm
  exact MIs.cells h hc rfl
theorem MIs.row_apart {κ ε : Type} {M : MK Try.prog κ ε} {w : World} {b m : Nat} {f : κ → Option ε} (h : MIs M w b m f) {α : Type} {d : Kd α} {e base : Nat} {ok : Nat → Prop} {v : Value} {xs : List α} (hR : d.R e w base ok v xs) : d.R e w base (fun k => ok k ∧ k ≠ b) v xs :=
  Kd.R_mono (Kd.R_bound hR) (fun k hk => ⟨hk.1, by obtain ⟨_, _, _, q, _, cells, hc⟩ := hk; exact MIs.cells h hc⟩)
theorem q_r_ne {α β : Type} {d : Kd α} {d' : Kd β} {w : World} {e e' base base' : Nat} {ok ok' : Nat → Prop} {v v' : Value} {xs : List α} {ys : List β} (hQ : d.Q e w base ok v xs) (hR : d'.R e' w base' ok' v' ys) (he : e ≠ e') (k : Nat) (hk : v.ownBlock = some k) : some k ≠ v'.ownBlock := by
  intro h
  obtain ⟨_, inner, ho, _⟩ := hQ
  obtain ⟨_, cells, hc⟩ := q_typed ho k hk
  obtain ⟨inner', ho'⟩ := Kd.R_own hR
  obtain ⟨cells', hc'⟩ := own_typed ho' k h.symm
  rw [hc] at hc'
  injection hc' with hc'
  injection hc' with _ hc'
  exact he hc'
theorem infoS : (Try.prog.info? 38).map (fun i => (i.zero, i.size, i.bytes)) = some (some (.slice none 0 0), 1, 24) := by kernel_rfl
theorem cutI (A : Option Addr) (n c : Nat) : ∃ A', (∀ W : World, (Instr.slice 38 (.slice A (n + 1) c) (some (.int .i64 1)) none none).run Try.prog W = .ok (.slice A' n (c - 1)) W) ∧
    ∀ (w : World) (base x : Nat) (wk : List Nat), (Kd.int .i64).Q 3 w base (fun _ => True) (.slice A (n + 1) c) (nats (x :: wk)) → (Kd.int .i64).Q 3 w base (fun _ => True) (.slice A' n (c - 1)) (nats wk) := by
  obtain ⟨i0, hi, hz0, hz1, hz2⟩ := info_parts infoI
  exact ⟨_, fun W => cut_from 38 3 .i64 Try.underlying38 hi 1 hz1 A (n + 1) c 1 (by omega) (by omega) W, fun w base x wk h => Kd.Q_drop (k := 1) h (by simp [nats])⟩
theorem keep_map {w w1 : World} {b : Nat} (hg : w.grownBy w1 (some b)) : KeepBut w w1 b none := ⟨hg.size, fun i hi hne _ => hg.block i hi (by simpa using hne)⟩
/-- A set of bits, as a row. -/
structure InRow (w : World) (v : Value) (l : List Int) (I : Nat → Bool) : Prop where
  row : (Kd.int .u64).R 71 w 0 (fun _ => True) v l
  wd : Wd l
  le : l.length ≤ 64
  bit : ∀ j, bitAt l j = I j
theorem InRow.move {w w1 : World} {v : Value} {l : List Int} {I : Nat → Bool} (h : InRow w v l I) (hR : (Kd.int .u64).R 71 w1 0 (fun _ => True) v l) : InRow w1 v l I := ⟨hR, h.wd, h.le, h.bit⟩
theorem Of_one (W : World) (A : Option Addr) (c a : Nat) (ha : a < 4096) (hc : 1 ≤ c) (hC : (Kd.int .i64).C W A 1 [(a : Int)]) :
    Calls Try.prog 36 #[.slice A 1 c] W fun e w' => ∃ v l, e = .returned v ∧ InRow w' v l (fun x => x == a) ∧ Below W.heap.size W w' := by
  obtain ⟨r, h1, h2, h3, h4⟩ := of_f [(a : Int)] (by simp) (by intro x hx; have hx2 : x = (a : Int) := List.mem_singleton.1 hx; omega)
  obtain ⟨k, hk⟩ := h1.rounds
  refine (bits_Of.calls k A c [(a : Int)] r W hC hc hk).mono ?_
  rintro e w' ⟨v, he, hR, hB⟩
  refine ⟨v, r, he, ⟨Kd.R_lower hR (Nat.zero_le _), h2, h3, fun j => ?_⟩, hB⟩
  rw [h4]
  unfold among
  by_cases hj : j = a
  · subst hj; simp [ha]
  · have e1 : (j == a) = false := by simpa using hj
    have e2 : [(a : Int)].contains (j : Int) = false := by rw [List.contains_eq_mem]; exact decide_eq_false (fun hm => hj (by have := List.mem_singleton.1 hm; omega))
    rw [e1, e2, Bool.and_false]
theorem With_in (W : World) (v : Value) (l : List Int) (I : Nat → Bool) (i : Nat) (hi : i < 4096) (h : InRow W v l I) :
    Calls Try.prog 33 #[v, .int .i64 i] W fun e w' => ∃ v' l', e = .returned v' ∧ InRow w' v' l' (also I i) ∧ Below W.heap.size W w' := by
  obtain ⟨A, c, rfl, hl, hC⟩ := Kd.R_reads h.row
  refine (With_any W A c l i hi h.wd h.le hl hC).mono ?_
  rintro e w' ⟨v, r, he, hp, hB⟩
  obtain ⟨p1, p2, p3, p4⟩ := hp
  exact ⟨v, r, he, ⟨p1, p2, p3, fun j => by rw [p4, h.bit]; rfl⟩, hB⟩
theorem List_in (n : Nat) (adj : Adj) (hS : Sane n adj) (a : Nat) (ha : a < n) (hn : n ≤ 400) (W : World) (v : Value) (l : List Int) (I : Nat → Bool) (h : InRow W v l I) (hI : ∀ b, I b = true ↔ Pu.Reach adj a b) :
    Calls Try.prog 35 #[v] W fun e w' => ∃ v', e = .returned v' ∧ (Kd.int .i64).R 3 w' W.heap.size (fun _ => True) v' (nats (comp n adj a)) ∧ Below W.heap.size W w' := by
  obtain ⟨A, c, rfl, hl, hC⟩ := Kd.R_reads h.row
  refine (List_own W A c l h.wd h.le hl hC).mono ?_
  rintro e w' ⟨v, l', he, hW', hb', ho, hB⟩
  refine ⟨v, he, ?_, hB⟩
  unfold nats
  rw [← comp_eq hI, ← elems_all (l := l') (n := n) (I := I) (fun i => by rw [hb', h.bit]) (fun i hi => ((hI i).1 hi).lt hS ha)]
  exact R_ints ho
/-- The state of the search. -/
structure PSt (w W0 wr : World) (n : Nat) (o I : Nat → Bool) (wk : List Nat) (v7 v8 : Value) : Prop where
  lf : ∃ f m, Lf n (both o I) f ∧ MIs MIB wr w.heap.size m f
  row : ∃ l, InRow wr v7 l I
  que : (Kd.int .i64).Q 3 wr W0.heap.size (fun _ => True) v8 (nats wk)
  keep : KeepBut W0 wr w.heap.size none
  below : Below w.heap.size w wr
theorem PSt.drew {w W0 wr : World} {n : Nat} {o I : Nat → Bool} {wk : List Nat} {v7 v8 : Value} (h : PSt w W0 wr n o I wk v7 v8) : PSt w W0 wr.drew n o I wk v7 v8 := by
  obtain ⟨⟨f, m, h1, h2⟩, ⟨l, h3⟩, h4, h5, h6⟩ := h
  exact ⟨⟨f, m, h1, h2.drew⟩, ⟨l, h3.move (Kd.R_drew h3.row)⟩, Kd.Q_drew h4, h5, below_drew h6⟩
set_option maxRecDepth 100000 in
set_option maxHeartbeats 4000000 in
theorem Parts_is (w : World) (g n : Nat) (v : Value) (adj : Adj) (h : GIs w g v n adj) :
    Calls Try.prog 22 #[.pointer (some ⟨g, 0, none⟩)] w fun e w' => ∃ v', e = .returned v' ∧ Kd.R (Kd.slice 3 (Kd.int .i64)) 38 w' w.heap.size (fun _ => True) v' ((parts n adj).map nats) ∧ Below w.heap.size w w' := by
  have hn4 := h.le
  have hS := h.sane
  have H := Lib.hid h
  clear h
  have hmm := @run_makeMap Try.prog
  go_enter Try.func22, Try.ntmps22
  go_wp2_with (go_at_call 11; refine (Len_is _ g v n adj (H.out.below (below_alloc (Below.refl _ _) _))).mono ?_; rintro e w' ⟨rfl, rfl⟩)
  go_loopw [15] (fun v15 wr => ∃ (k : Nat) (f : Int → Option Bool), k ≤ n ∧ v15 = .int .i64 k ∧ Aside0 (LI k f) ∧ Aside0 (MIs MIB wr w.heap.size k f) ∧ Aside0 (Below w.heap.size w wr)) (fun v15 _ => n - (intOf v15).toNat)
  case atStart => exact ⟨0, fun _ => none, Nat.zero_le _, rfl, ⟨LI.start⟩, ⟨MIs.made MIB w⟩, ⟨below_alloc (Below.refl _ _) _⟩⟩
  case round =>
    clear hmm
    obtain ⟨k, f, hk, rfl, HF, HM, HB⟩ := hrel
    by_cases hlt : k < n
    · go_wp2_with (first
        | (at_mapUpdate; refine wl_put HM.out rfl _ _ _ rfl rfl (by unfold maxLen; omega) (k : Int) (okB (by omega)) rfl true trivial rfl ?_; intro w2 hM2 hg2))
      rw [HF.out.fresh] at hM2
      exact ⟨⟨k + 1, _, by omega, by go_num, ⟨HF.out.step⟩, ⟨hM2⟩, ⟨HB.out.grown hg2 HB.out.size (fun q e => by cases e; exact Nat.le_refl _)⟩⟩, by simp [intOf]; omega⟩
    · obtain rfl : k = n := by omega
      have HF1 := Aside0.mk HF.out.all
      clear HF
      go_wp2_with (first
        | (go_at_call 11; refine (Len_is _ g v _ adj (H.out.below HB.out)).mono ?_; rintro e w' ⟨rfl, rfl⟩))
      go_loopw [5, 23] (fun v5 v23 wr' => ∃ (a : Nat) (o : Nat → Bool) (f : Int → Option Bool) (m : Nat), a ≤ k ∧ v23 = .int .i64 a ∧ Aside0 (Gone adj a o) ∧ Aside0 (Lf k o f) ∧ Aside0 (MIs MIB wr' w.heap.size m f) ∧ Aside0 (Kd.R (Kd.slice 3 (Kd.int .i64)) 38 wr' w.heap.size (fun _ => True) v5 ((partsTo k adj a).map nats)) ∧ Aside0 (Below w.heap.size w wr')) (fun _ v23 _ => k - (intOf v23).toNat)
      case atStart => exact ⟨0, _, f, _, Nat.zero_le _, rfl, ⟨Gone.start adj⟩, HF1, HM, ⟨by rw [partsTo_zero]; exact Kd.R_nil _ _ _ _ _⟩, HB⟩
      case round =>
        clear HF1 HM HB f
        obtain ⟨a, o, f, m, ha, rfl, HG, HF, HM, HR, HB⟩ := hrel
        by_cases hlt2 : a < k
        · cases ho : o a with
          | true =>
            have hfa := HF.out.no ho
            go_wp2_with (first
              | (at_lookup; refine wl_look1 HM.out rfl _ _ rfl rfl (a : Int) (okB (by omega)) rfl false (by rw [hfa]; rfl) (.bool false) rfl ?_))
            obtain ⟨hnl, hG2⟩ := HG.out.more ho
            exact ⟨⟨a + 1, o, f, m, by omega, by go_num, ⟨hG2⟩, HF, HM, ⟨by rw [partsTo_no hnl]; exact HR.out⟩, HB⟩, by simp [intOf]; omega⟩
          | false =>
            have hfa := HF.out.yes hlt2 ho
            have hone := Bfs.start adj a
            go_wp2_with (first
              | (at_lookup; refine wl_look1 HM.out rfl _ _ rfl rfl (a : Int) (okB (by omega)) rfl true (by rw [hfa]; rfl) (.bool true) rfl ?_)
              | ((with_reducible refine gate_dst (N := 31) rfl ?_); refine Kd.R_lit (Kd.int .i64) _ 3 ?hg (N := 31) ?hd (xs := ([(a : Int)] : List Int)) (inner := [.int .i64 a]) (ok := fun _ => True) (okp := fun _ => True) ?hr ?hp (fun _ hk => hk) trivial (Below.refl _ _) (Nat.le_refl _) (by simp) ?_; (case hd => rfl); (case hg => rfl); (case hr => first | (go_simp; done) | (go_simp; rfl)); (case hp => exact (Reps.one (show Kd.M (Kd.int .i64) _ _ _ (a : Int) [.int .i64 a] from rfl) (Reps.none _ _))); intro v31 w1 hR1 hB1 hg1 hnew1; obtain ⟨A31, c31, rfl⟩ := Kd.R_slice hR1; have HL1 := Aside0.mk hR1; have HM1 := Aside0.mk (HM.out.below hB1 HM.out.lt); have HR1 := Aside0.mk (Kd.R_below HR.out hB1); have HB1 := Aside0.mk (below_then HB.out HB.out.size hB1); clear hR1 hB1 hg1 hnew1 HM HR HB)
              | (go_at_call 36; refine (Of_one _ _ _ a (by omega) (Kd.R_reads' HL1.out).2.1 (Kd.R_reads' HL1.out).2.2).mono ?_; rintro e w2 ⟨v7, l7, rfl, hI2, hB2⟩; have HI2 := Aside0.mk hI2; have HM2 := Aside0.mk (HM1.out.below hB2 HM1.out.lt); have HR2 := Aside0.mk (Kd.R_below HR1.out hB2); have HB2 := Aside0.mk (below_then HB1.out HB1.out.size hB2); clear hI2 hB2 HL1 HM1 HR1 HB1)
              | ((with_reducible refine gate_builtin (b := .delete) (xs := #[.tmp 33, .tmp 34]) rfl ?_); refine wl_del HM2.out rfl _ _ rfl rfl (a : Int) (okB (by omega)) rfl ?_; intro w3 hM3 hg3; have HM3 := Aside0.mk hM3; have HR3 := Aside0.mk (MIs.row_apart HM3.out (MIs.row_kept HM2.out HR2.out hg3)); have HI3 := Aside0.mk (HI2.out.move (MIs.row_kept HM2.out HI2.out.row hg3)); have HB3 := Aside0.mk (HB2.out.grown hg3 HB2.out.size (fun q e => by cases e; exact Nat.le_refl _)); clear HM2 HR2 HI2 HB2 hM3 hg3)
              | ((with_reducible refine gate_dst (N := 36) rfl ?_); refine Kd.R_lit (Kd.int .i64) _ 3 ?hg (N := 36) ?hd (xs := ([(a : Int)] : List Int)) (inner := [.int .i64 a]) (ok := fun _ => True) (okp := fun _ => True) ?hr ?hp (fun _ hk => hk) trivial (Below.refl _ _) (Nat.le_refl _) (by simp) ?_; (case hd => rfl); (case hg => rfl); (case hr => first | (go_simp; done) | (go_simp; rfl)); (case hp => exact (Reps.one (show Kd.M (Kd.int .i64) _ _ _ (a : Int) [.int .i64 a] from rfl) (Reps.none _ _))); intro v36 w4 hR4 hB4 hg4 hnew4; obtain ⟨A36, c36, rfl⟩ := Kd.R_slice hR4; have HL4 := Aside0.mk hR4; have HM4 := Aside0.mk (HM3.out.below hB4 HM3.out.lt); have HI4 := Aside0.mk (HI3.out.move (Kd.R_below HI3.out.row hB4)); have HB4 := Aside0.mk (below_then HB3.out HB3.out.size hB4); have HW3 := Aside0.mk HB3.out.size; have HK4 := Aside0.mk (KeepBut.of_below hB4 w.heap.size none); clear hR4 hB4 hg4 hnew4 HM3 HI3 HB3))
            go_loopg [7, 8] (k + 1) (fun q v7 v8 wr' => ∃ (I : Nat → Bool) (wk : List Nat) (m8 : Nat) (A8 : Option Addr) (c8 : Nat), v8 = .slice A8 m8 c8 ∧ Aside0 (wk.length = m8) ∧ Aside0 (Bfs adj a I wk) ∧ Aside0 (cnt k (both o I) + wk.length ≤ q ∧ q ≤ k + 1) ∧ Aside0 (PSt w w3 wr' k o I wk v7 (.slice A8 m8 c8)))
            case atStart => exact ⟨fun x => x == a, [a], 1, A36, c36, rfl, ⟨rfl⟩, ⟨hone⟩, ⟨by have := cnt_le k (both o (fun x => x == a)); simp; omega, Nat.le_refl _⟩, ⟨⟨_, _, (both_one o a) ▸ HF.out.del a, HM4.out⟩, ⟨_, HI4.out⟩, Kd.Q_of_R HL4.out, HK4.out, HB4.out⟩⟩
            case round =>
              clear HM4 HI4 HL4 HK4 HB4 hone hfa HF
              obtain ⟨I, wk, m8, A8, c8, rfl, HW, HBf, HC, HP⟩ := hrel
              cases wk with
              | nil =>
                obtain rfl : 0 = m8 := HW.out
                obtain ⟨⟨f, m, hf, hM⟩, ⟨l, hI⟩, hQ, hK, hB⟩ := HP.out
                have HF := Aside0.mk hf
                have HM := Aside0.mk hM
                have HI := Aside0.mk hI
                have HB := Aside0.mk hB
                have HR4 := Aside0.mk (Kd.R_mono (Kd.R_keep HR3.out hK (fun k hk => hk.2)) (fun _ hk => hk.1))
                have hlen := partsTo_length k adj a
                clear HP hf hM hI hQ hK hB
                go_wp2_with (first
                  | (go_at_call 35; refine (List_in k adj hS a hlt2 hn4 _ _ l I HI.out (fun b => HBf.out.all b)).mono ?_; rintro e w5 ⟨v68, rfl, hR5, hB5⟩; obtain ⟨inner0, hown0⟩ := Kd.R_own HR4.out; have HC5 := Aside0.mk (Kd.R_lower (Kd.R_new hR5 hown0) HB.out.size); have HM5 := Aside0.mk (HM.out.below hB5 HM.out.lt); have HR5 := Aside0.mk (Kd.R_below HR4.out hB5); have HB5 := Aside0.mk (below_then HB.out HB.out.size hB5); clear hR5 hB5 hown0 HM HR4 HB inner0; obtain ⟨A68, c68, rfl⟩ := Kd.R_slice HC5.out)
                  | ((with_reducible refine gate_builtin (b := .append) (xs := #[.tmp 66, .tmp 69]) rfl ?_); refine Kd.R_append (Kd.slice 3 (Kd.int .i64)) (w0 := w) w.heap.size rfl (.tmp 66) (.tmp 69) 44 38 (.slice none 0 0) 24 rfl Try.underlying44 infoS rfl (by decide) (by omega) _ ((partsTo k adj a).map nats) (nats (comp k adj a)) [.slice A68 (nats (comp k adj a)).length c68] (fun _ => True) (fun q => True ∧ some q ≠ _) rfl rfl ⟨_, rfl, (by (with_reducible repeat (first | apply Kd.R_alloc | apply Kd.R_drewN | apply Kd.R_drew)); exact HC5.out)⟩ (fun _ hk => hk) (fun _ _ => trivial) (by (with_reducible repeat (first | apply Kd.R_alloc | apply Kd.R_drewN | apply Kd.R_drew)); exact HR5.out) (by repeat (first | (with_reducible first | exact HB5.out | apply below_alloc | apply pw_below_drewN | apply below_drew1) | exact HB5.out)) (below_size (by repeat (first | (with_reducible first | exact HB5.out | apply below_alloc | apply pw_below_drewN | apply below_drew1) | exact HB5.out))) (by rw [List.length_map]; omega) ?_; intro v70 w6 hR6 hB6 hg6 hat6; have HM6 := Aside0.mk (MIs.kept (w := _) (b := w.heap.size) (M := MIB) (by (with_reducible repeat (first | apply MIs.alloc | apply MIs.drewN | apply MIs.drew)); exact HM5.out) hg6 (MIs.ne_row HM5.out HR5.out)); rw [show (partsTo k adj a).map nats ++ [nats (comp k adj a)] = (partsTo k adj (a + 1)).map nats by rw [partsTo_yes (HG.out.least ho)]; simp] at hR6; have HR6 := Aside0.mk hR6; have HB6 := Aside0.mk hB6; clear hR6 hB6 hg6 hat6 HM5 HR5 HB5 HC5))
                exact ⟨⟨a + 1, both o I, f, m, by omega, by go_num, ⟨HG.out.over (fun b => HBf.out.all b)⟩, HF, HM6, HR6, HB6⟩, by simp [intOf]; omega⟩
              | cons x wk =>
                obtain rfl : wk.length + 1 = m8 := HW.out
                cases gk with
                | zero => exact absurd HC.out.1 (by simp)
                | succ k1 =>
                have hxI := HBf.out.onWk x List.mem_cons_self
                have hxk : x < k := (HBf.out.reach x hxI).lt hS hlt2
                have HBi := Aside0.mk HBf.out.pop
                obtain ⟨⟨f, m, hf, hM⟩, ⟨l, hI⟩, hQ, hK, hB⟩ := HP.out
                have hC8 := (Kd.Q_reads' hQ).2.2
                obtain ⟨ad, rfl, hcell⟩ := Kd.at_int hC8 (0 : Int) (by omega) (by simp [nats])
                obtain ⟨A9, hcut, hdrop⟩ := cutI (some ad) wk.length c8
                have hQ9 := hdrop _ _ _ _ hQ
                have HM := Aside0.mk hM
                have HI := Aside0.mk hI
                have HB := Aside0.mk hB
                have HK := Aside0.mk hK
                have HQ := Aside0.mk hQ9
                have HF := Aside0.mk hf
                clear HP hf hM hI hQ hK hB hC8 hdrop hQ9 hxI HW HBf
                replace hcell : wr.cell? (ad.add 0) = some (.int .i64 (x : Int)) := hcell
                have had : ad.add 0 = ad := by simp [Addr.add]
                rw [had] at hcell
                go_wp2_with (first
                  | (go_at_call 19; refine (Near_nat _ g v k adj x (H.out.below HB.out) hxk).mono ?_; rintro e w5 ⟨A6, c6, rfl, hR6, hB6⟩; have HM5 := Aside0.mk (HM.out.below hB6 HM.out.lt); have HI5 := Aside0.mk (HI.out.move (Kd.R_below HI.out.row hB6)); have HQ5 := Aside0.mk (Kd.Q_below HQ.out hB6); have HS5 : Aside0 (∀ q, (Value.slice A6 (near k adj x).length c6).ownBlock = some q → some q ≠ (Value.slice A9 wk.length (c8 - 1)).ownBlock) := ⟨fun q h1 h2 => (by have := Kd.R_base hR6 q h1; have := Kd.Q_lt HQ.out q h2.symm; omega)⟩; have HK5 := Aside0.mk (HK.out.trans (KeepBut.of_below hB6 w.heap.size none) (Or.inl rfl)); have HB7 := Aside0.mk (below_then HB.out HB.out.size hB6); have HN := Aside0.mk (Kd.R_lower hR6 (Nat.zero_le _)); clear hR6 hB6 HM HI HQ HK HB))
                have hnl := near_len k adj x
                have hnb : ∀ b, b ∈ near k adj x → adj x b = true := fun b hb => (mem_near hS).1 hb
                have hov : ∀ (I : Nat → Bool) (wk : List Nat), BfsIn adj a I wk x (near k adj x) → Bfs adj a I wk := fun I wk h => h.over hS
                generalize near k adj x = L at HN HS5 hnl hnb hov ⊢
                go_loopw [7, 8, 49] (fun v7 v8 v49 wr' => ∃ (t : Nat) (I : Nat → Bool) (wk : List Nat) (m8 : Nat) (A8 : Option Addr) (c8 : Nat), t ≤ L.length ∧ v49 = .int .i64 t ∧ v8 = .slice A8 m8 c8 ∧ Aside0 (wk.length = m8) ∧ Aside0 (BfsIn adj a I wk x (L.take t)) ∧ Aside0 (cnt k (both o I) + wk.length ≤ k1) ∧ Aside0 (PSt w w3 wr' k o I wk v7 (.slice A8 m8 c8)) ∧ Aside0 ((Kd.int .i64).R 3 wr' 0 (fun _ => True) (.slice A6 L.length c6) (nats L)) ∧ Aside0 (∀ q, (Value.slice A6 L.length c6).ownBlock = some q → some q ≠ (Value.slice A8 m8 c8).ownBlock)) (fun _ _ v49 _ => L.length - (intOf v49).toNat)
                case atStart => exact ⟨0, I, wk, wk.length, A9, _, Nat.zero_le _, rfl, rfl, ⟨rfl⟩, HBi, ⟨by have := HC.out.1; simp only [List.length_cons] at this; omega⟩, ⟨⟨f, m, HF.out, HM5.out⟩, ⟨l, HI5.out⟩, HQ5.out, HK5.out, HB7.out⟩, HN, HS5⟩
                case round =>
                  have hk1 := HC.out.2
                  clear HF HM5 HI5 HQ5 HK5 HB7 HN HS5 HBi HC
                  obtain ⟨t, I, wk, m8, A8, c8, ht, rfl, rfl, HW, HBi, HC, HP, HN, HS⟩ := hrel
                  obtain rfl := HW.out
                  by_cases hlt4 : t < L.length
                  · obtain ⟨⟨f, m, hf, hM⟩, ⟨l, hI⟩, hQ, hK, hB⟩ := HP.out
                    have HCC := (Kd.R_reads' HN.out).2.2
                    rw [nats_length] at HCC
                    obtain ⟨ad, rfl, hcell⟩ := Kd.at_int HCC (t : Int) (by omega) (by omega)
                    rw [rd_nat, getD_nats L t hlt4, Int.toNat_natCast] at hcell
                    have hqb := hnb _ (getD_mem L t hlt4)
                    have hbk : L.getD t 0 < k := hS.lt2 hqb
                    have htk := take_succ_getD L t hlt4
                    generalize L.getD t 0 = b at hcell hqb hbk htk
                    cases hIb : I b with
                    | true =>
                      have hfb := hf.no (both_old (o := o) hIb)
                      have HM := Aside0.mk hM
                      clear hf hM hI hQ hK hB HCC
                      go_wp2_with (first
                        | (at_lookup; refine wl_look1 HM.out rfl _ _ rfl rfl (b : Int) (okB (by omega)) rfl false (by rw [hfb]; rfl) (.bool false) rfl ?_))
                      exact ⟨⟨t + 1, I, wk, wk.length, A8, c8, by omega, by go_num, rfl, ⟨rfl⟩, ⟨by rw [htk]; exact HBi.out.old hIb⟩, HC, HP, HN, HS⟩, by simp [intOf]; omega⟩
                    | false =>
                      have hr := (HBi.out.reach x HBi.out.ix).step hqb
                      have hbn := both_new hS HG.out ho hr hIb
                      have hfb := hf.yes hbk hbn
                      have hcn := cnt_also hbk hbn
                      rw [both_also] at hcn
                      have hk2 := HC.out
                      have HF' := Aside0.mk ((both_also o I b) ▸ hf.del b)
                      have HM := Aside0.mk hM
                      have HI := Aside0.mk hI
                      have HB := Aside0.mk hB
                      have HK := Aside0.mk hK
                      have HQ := Aside0.mk hQ
                      have HBj := Aside0.mk (HBi.out.new hqb)
                      clear HP hf hM hI hQ hK hB HCC HBi hbn hr HC
                      go_wp2_with (first
                        | (at_lookup; refine wl_look1 HM.out rfl _ _ rfl rfl (b : Int) (okB (by omega)) rfl true (by rw [hfb]; rfl) (.bool true) rfl ?_)
                        | ((with_reducible refine gate_builtin (b := .delete) (xs := #[.tmp 56, .tmp 57]) rfl ?_); refine wl_del HM.out rfl _ _ rfl rfl (b : Int) (okB (by omega)) rfl ?_; intro w6 hM6 hg6; have HM6 := Aside0.mk hM6; have HI6 := Aside0.mk (HI.out.move (MIs.row_kept HM.out HI.out.row hg6)); have HQ6 := Aside0.mk (MIs.q_kept HM.out HQ.out hg6); have HN6 := Aside0.mk (MIs.row_kept HM.out HN.out hg6); have HK6 := Aside0.mk (HK.out.trans (keep_map hg6) (Or.inl rfl)); have HB6 := Aside0.mk (HB.out.grown hg6 HB.out.size (fun q e => by cases e; exact Nat.le_refl _)); clear HM HI HQ HN HK HB hM6 hg6)
                        | (go_at_call 33; refine (With_in _ _ l I b (by omega) HI6.out).mono ?_; rintro e w7 ⟨v7', l', rfl, hI7, hB7⟩; have HI7 := Aside0.mk hI7; have HM7 := Aside0.mk (HM6.out.below hB7 HM6.out.lt); have HQ7 := Aside0.mk (Kd.Q_below HQ6.out hB7); have HN7 := Aside0.mk (Kd.R_below HN6.out hB7); have HK7 := Aside0.mk (HK6.out.trans (KeepBut.of_below hB7 w.heap.size none) (Or.inl rfl)); have HB7 := Aside0.mk (below_then HB6.out HB6.out.size hB7); clear hI7 hB7 HM6 HI6 HQ6 HN6 HK6 HB6)
                        | ((with_reducible refine gate_builtin (b := .append) (xs := #[.tmp 61, .tmp 63]) rfl ?_); refine Kd.Q_append (Kd.int .i64) w3.heap.size rfl (.tmp 61) (.tmp 63) 38 3 (.int .i64 0) 8 rfl Try.underlying38 infoI rfl (by decide) (by omega) (.slice A8 wk.length c8) (nats wk) (b : Int) [.int .i64 b] (fun _ => True) (fun _ => False) rfl rfl rfl (fun _ hk => hk.elim) (fun _ _ => trivial) (by (with_reducible repeat (first | apply Kd.Q_alloc | apply Kd.Q_drewN | apply Kd.Q_drew)); exact HQ7.out) (Below.refl _ _) HK7.out.1 (by rw [nats_length]; omega) ?_; intro v8' w8 hQ8 hB8 hg8 hat8; have HM8 := Aside0.mk (MIs.kept (b := w.heap.size) (M := MIB) (by (with_reducible repeat (first | apply MIs.alloc | apply MIs.drewN | apply MIs.drew)); exact HM7.out) hg8 (MIs.ne_q HM7.out HQ7.out)); have HI8 := Aside0.mk (HI7.out.move (Kd.R_grown2 HI7.out.row rfl hg8 (q_r_ne HQ7.out HI7.out.row (by decide)))); have HN8 := Aside0.mk (Kd.R_grown2 HN7.out rfl hg8 (fun q h1 h2 => HS.out q h2.symm h1.symm)); have HK8 := Aside0.mk (HK7.out.trans (KeepBut.of_grown hg8 w.heap.size) (Kd.Q_base2 HQ7.out)); have HB8 := Aside0.mk (HB7.out.grown hg8 HB7.out.size (fun q hq => Nat.le_trans HW3.out (Kd.Q_base HQ7.out q hq))); have HS8 : Aside0 (∀ q, (Value.slice (some ad) L.length c6).ownBlock = some q → some q ≠ v8'.ownBlock) := ⟨fun q h1 h2 => hat8.elim (fun e1 => HS.out q h1 (h2.trans e1)) (fun ⟨b1, e1, hb1⟩ => by have h3 := Kd.R_lt HN7.out q h1; rw [e1] at h2; injection h2 with h2; omega)⟩; have HQ8 := Aside0.mk hQ8; clear HM7 HI7 HQ7 HN7 HK7 HB7 hQ8 hB8 hg8 hat8))
                      obtain ⟨A9', c9', rfl, _⟩ := Kd.Q_slice HQ8.out
                      have HQ9 := HQ8.out
                      have HS9 := HS8.out
                      rw [show nats wk ++ [(b : Int)] = nats (wk ++ [b]) by simp [nats]] at HQ9 HS9 ⊢
                      rw [nats_length] at HQ9 HS9 ⊢
                      exact ⟨⟨t + 1, also I b, wk ++ [b], _, A9', c9', by omega, by go_num, rfl, ⟨rfl⟩, ⟨by rw [htk]; exact HBj.out⟩, ⟨by simp; omega⟩, ⟨⟨_, _, HF'.out, HM8.out⟩, ⟨_, HI8.out⟩, HQ9, HK8.out, HB8.out⟩, HN8, ⟨HS9⟩⟩, by simp [intOf]; omega⟩
                  · obtain rfl : t = L.length := by omega
                    go_wp2
                    go_roundg k1
                    case measure => omega
                    case rel => exact ⟨I, wk, wk.length, A8, c8, rfl, ⟨rfl⟩, ⟨hov _ _ (by have := HBi.out; rw [List.take_length] at this; exact this)⟩, ⟨HC.out, by omega⟩, HP⟩
        · obtain rfl : a = k := by omega
          go_wp2
          go_ret
          exact ⟨_, rfl, HR.out, HB.out⟩
end Go.Proofs.Ytfkmngmnnlgjdaa.Gr

/- Join, told once for all arguments; the chapter's example as plain facts. -/
namespace Go.Proofs.Ytfkmngmnnlgjdaa.Gr
open Go Go.RowKit Go.Proofs.Ytfkmngmnnlgjdaa.Gf Go.Proofs.Ytfkmngmnnlgjdaa.Pu Go.Proofs.Ytfkmngmnnlgjdaa.Mw Go.Proofs.YtfkmngmnnlgjdaaW.PrintWords Go.Proofs.YtfkmngmnnlgjdaaW.PrintLast Go.Proofs.YtfkmngmnnlgjdaaW.PrintMore
set_option linter.unusedVariables false
set_option linter.unusedSimpArgs false

/-- The joins behind a Join. -/
def jn (n : Nat) (adj : Adj) (a b : Int) : Adj := if joinOk n adj a b then put adj a.toNat b.toNat else adj
theorem joinOk_nat {n : Nat} {adj : Adj} {a b : Int} (h : joinOk n adj a b = true) : ∃ x y : Nat, a = x ∧ b = y ∧ x < n ∧ y < n ∧ x ≠ y ∧ adj x y = false := by
  simp only [joinOk, hasN, isN, Bool.and_eq_true, decide_eq_true_eq, Bool.not_eq_true', beq_eq_false_iff_ne] at h
  obtain ⟨⟨⟨⟨ha0, ha1⟩, hb0, hb1⟩, hab⟩, hh⟩ := h
  obtain ⟨x, rfl⟩ := Int.eq_ofNat_of_zero_le ha0
  obtain ⟨y, rfl⟩ := Int.eq_ofNat_of_zero_le hb0
  refine ⟨x, y, rfl, rfl, by omega, by omega, by omega, ?_⟩
  simpa [ha1, ha0, hb0] using hh
theorem jn_sane {n : Nat} {adj : Adj} (h : Sane n adj) (a b : Int) : Sane n (jn n adj a b) := by
  unfold jn
  cases hj : joinOk n adj a b with
  | false => exact h
  | true =>
    obtain ⟨x, y, rfl, rfl, hx, hy, hxy, hadj⟩ := joinOk_nat hj
    simpa using h.put hx hy hxy
theorem GIs.full {w : World} {g n : Nat} {v : Value} {adj : Adj} (h : GIs w g v n adj) (hn : 0 < n) : ∃ ga c, v = .slice (some ⟨ga, 0, none⟩) n c := by
  obtain ⟨A, c, rfl, _, _⟩ := h.head
  obtain ⟨_, rows, hR, hr⟩ := h
  obtain ⟨inner, ho⟩ := Kd.R_own hR
  obtain ⟨_, h2 | ⟨b, cap, cur, he, _⟩⟩ := ho
  · exfalso
    have := (Kd.R_reads' hR).1
    have := h2.2
    omega
  · injection he with e1 e2 e3
    exact ⟨b, c, by rw [e1]⟩
theorem Join_any (w : World) (g n : Nat) (v : Value) (adj : Adj) (a b : Int) (h : GIs w g v n adj) :
    Calls Try.prog 14 #[.pointer (some ⟨g, 0, none⟩), .int .i64 a, .int .i64 b] w fun e w' => e = .returned (.bool (joinOk n adj a b)) ∧ GIs w' g v n (jn n adj a b) ∧ w.grownBy w' v.ownBlock := by
  cases hj : joinOk n adj a b with
  | false =>
    refine (Join_no w g n v adj a b h hj).mono ?_
    rintro e w' ⟨rfl, hD⟩
    refine ⟨rfl, ?_, grown_of_below hD.below _⟩
    unfold jn
    rw [hj]
    exact h.below hD.below
  | true =>
    obtain ⟨x, y, rfl, rfl, hx, hy, hxy, hadj⟩ := joinOk_nat hj
    obtain ⟨ga, c, rfl⟩ := h.full (by omega)
    refine (Join_yes w g ga n c adj x y h hx hy hxy hadj).mono ?_
    rintro e w' ⟨rfl, hG, hg⟩
    refine ⟨rfl, ?_, by simpa [Value.ownBlock] using hg⟩
    unfold jn
    rw [hj]
    simpa using hG
/-- The example's joins. -/
def adjH : Adj := put (put (fun _ _ => false) 0 1) 1 2
theorem jnH0 : jn 4 (fun _ _ => false) 0 1 = put (fun _ _ => false) 0 1 := rfl
theorem jnH1 : jn 4 (put (fun _ _ => false) 0 1) 1 2 = adjH := rfl
theorem okH0 : joinOk 4 (fun _ _ => false) 0 1 = true := by decide
theorem okH1 : joinOk 4 (put (fun _ _ => false) 0 1) 1 2 = true := by decide
theorem okH2 : joinOk 4 adjH 2 1 = false := by decide
theorem jnH2 : jn 4 adjH 2 1 = adjH := by unfold jn; rw [okH2]; rfl
theorem shellH : shell 4 adjH = [3, 0, 1, 2] := by decide
theorem saneH : Sane 4 adjH := by
  rw [← jnH1, ← jnH0]
  exact jn_sane (jn_sane (sane_none 4) _ _) _ _
theorem adjH_true {x y : Nat} (h : adjH x y = true) : (x = 0 ∧ y = 1) ∨ (x = 1 ∧ y = 0) ∨ (x = 1 ∧ y = 2) ∨ (x = 2 ∧ y = 1) := by
  simp [adjH, put] at h
  omega
theorem reachH {x y : Nat} (h : Pu.Reach adjH x y) (hx : x ≤ 2) : y ≤ 2 := by
  refine h.inside (I := fun z => z ≤ 2) hx ?_
  intro a b ha hab
  rcases adjH_true hab with h | h | h | h <;> omega
theorem reachH3 {y : Nat} (h : Pu.Reach adjH 3 y) : y = 3 := by
  refine h.inside (I := fun z => z = 3) rfl ?_
  intro a b ha hab
  rcases adjH_true hab with h | h | h | h <;> omega
theorem r01 : Pu.Reach adjH 0 1 := Pu.Reach.refl.step (by decide)
theorem r02 : Pu.Reach adjH 0 2 := r01.step (by decide)
theorem partsH : parts 4 adjH = [[0, 1, 2], [3]] := by
  have c0 : comp 4 adjH 0 = [0, 1, 2] := by
    rw [← comp_eq (n := 4) (I := fun x => decide (x ≤ 2))]
    · decide
    · intro b
      rw [decide_eq_true_iff]
      refine ⟨fun hb => ?_, fun hr => reachH hr (by omega)⟩
      have : b = 0 ∨ b = 1 ∨ b = 2 := by omega
      rcases this with rfl | rfl | rfl
      · exact .refl
      · exact r01
      · exact r02
  have c3 : comp 4 adjH 3 = [3] := by
    rw [← comp_eq (n := 4) (I := fun x => decide (x = 3))]
    · decide
    · intro b
      rw [decide_eq_true_iff]
      exact ⟨fun hb => hb ▸ .refl, reachH3⟩
  have l0 : Least adjH 0 := fun b hb => by omega
  have l1 : ¬ Least adjH 1 := fun h => h 0 (by omega) r01
  have l2 : ¬ Least adjH 2 := fun h => h 0 (by omega) r02
  have l3 : Least adjH 3 := fun b hb hr => by have := reachH hr (by omega); omega
  unfold parts
  rw [partsTo_yes l3, partsTo_no l2, partsTo_no l1, partsTo_yes l0, partsTo_zero, c0, c3]
  rfl
end Go.Proofs.Ytfkmngmnnlgjdaa.Gr

/- What the document's functions on a graph's joins answer: plain facts on the printed functions. -/
namespace Go.Proofs.Ytfkmngmnnlgjdaa.Pr
open Go Go.RowKit Go.Proofs.Ytfkmngmnnlgjdaa.Gf Go.Proofs.Ytfkmngmnnlgjdaa.Pu Go.Proofs.Ytfkmngmnnlgjdaa.Gr Go.Proofs.YtfkmngmnnlgjdaaW.PrintWords
theorem eq_of_getD {α : Type} (z : α) (l m : List α) (hlm : l.length = m.length) (h : ∀ j, j < l.length → l.getD j z = m.getD j z) : l = m := by
  refine List.ext_getElem hlm (fun j h1 h2 => ?_)
  have := h j h1
  rw [List.getD_eq_getElem?_getD, List.getD_eq_getElem?_getD, List.getElem?_eq_getElem h1, List.getElem?_eq_getElem h2] at this
  exact this
/-- Two rows of numbers. -/
theorem ints_ev (l m : List Int) (hlm : l.length = m.length) (hl : l.length ≤ 9223372036854775807) : ∀ d i : Nat, d + i = l.length → (∀ j, j < i → l.getD j 0 = m.getD j 0) → Ev (fun k => horariumref03_Ints.l0 k l m (i : Int)) (decide (l = m)) := by
  intro d
  induction d with
  | zero =>
    intro i hi hj
    rw [decide_eq_true (eq_of_getD 0 l m hlm (fun j h => hj j (by omega)))]
    refine Ev.step (f := fun _ => some true) (fun k => ?_) (Ev.now true)
    simp only [horariumref03_Ints.l0]
    rw [if_neg (by omega)]
  | succ d ih =>
    intro i hi hj
    by_cases he : l.getD i 0 = m.getD i 0
    · refine Ev.step (fun k => ?_) (ih (i + 1) (by omega) (fun j h => ?_))
      · simp only [horariumref03_Ints.l0]
        rw [if_pos (by omega), if_pos (by omega), if_pos (by omega), rd_nat, rd_nat, if_pos he, wr1 (by omega)]
      · by_cases e : j = i
        · rw [e]; exact he
        · exact hj j (by omega)
    · rw [decide_eq_false (fun e => he (by rw [e]))]
      refine Ev.step (f := fun _ => some false) (fun k => ?_) (Ev.now false)
      simp only [horariumref03_Ints.l0]
      rw [if_pos (by omega), if_pos (by omega), if_pos (by omega), rd_nat, rd_nat, if_neg he]
theorem ints_f (l m : List Int) (hl : l.length ≤ 9223372036854775807) : Ev (fun k => horariumref03_Ints.f k l m) (decide (l = m)) := by
  by_cases h : l.length = m.length
  · refine Ev.congr (fun k => ?_) (ints_ev l m h hl l.length 0 rfl (fun j hj => by omega))
    unfold horariumref03_Ints.f
    rw [if_pos (by omega)]
    rfl
  · rw [decide_eq_false (fun e => h (by rw [e]))]
    refine Ev.congr (f := fun _ => some false) (fun k => ?_) (Ev.now false)
    unfold horariumref03_Ints.f
    rw [if_neg (by omega)]
/-- Two rows of rows. -/
theorem rows_ev (l m : List (List Int)) (hlm : l.length = m.length) (hl : l.length ≤ 9223372036854775807) (hin : ∀ j, (l.getD j []).length ≤ 9223372036854775807) : ∀ d i : Nat, d + i = l.length → (∀ j, j < i → l.getD j [] = m.getD j []) → Ev (fun k => horariumref14_Rows.l0 k l m (i : Int)) (decide (l = m)) := by
  intro d
  induction d with
  | zero =>
    intro i hi hj
    rw [decide_eq_true (eq_of_getD [] l m hlm (fun j h => hj j (by omega)))]
    refine Ev.step (f := fun _ => some true) (fun k => ?_) (Ev.now true)
    simp only [horariumref14_Rows.l0]
    rw [if_neg (by omega)]
  | succ d ih =>
    intro i hi hj
    have hrun : ∀ k, horariumref14_Rows.l0 (k + 1) l m (i : Int) = (horariumref03_Ints.f k (l.getD i []) (m.getD i [])).bind fun t => if t = true then horariumref14_Rows.l0 k l m ((i + 1 : Nat) : Int) else some false := by
      intro k
      simp only [horariumref14_Rows.l0]
      rw [if_pos (by omega), if_pos (by omega), if_pos (by omega), wr1 (by omega)]
      unfold rd_L2
      rw [Int.toNat_natCast]
    refine Ev.step hrun ?_
    by_cases he : l.getD i [] = m.getD i []
    · refine Ev.bind (ints_f _ _ (hin i)) ?_
      rw [decide_eq_true he]
      refine ih (i + 1) (by omega) (fun j h => ?_)
      by_cases e : j = i
      · rw [e]; exact he
      · exact hj j (by omega)
    · rw [decide_eq_false (fun e => he (by rw [e]))]
      refine Ev.bind (ints_f _ _ (hin i)) ?_
      rw [decide_eq_false he]
      exact Ev.now false
theorem rows_f (l m : List (List Int)) (hl : l.length ≤ 9223372036854775807) (hin : ∀ j, (l.getD j []).length ≤ 9223372036854775807) : Ev (fun k => horariumref14_Rows.f k l m) (decide (l = m)) := by
  by_cases h : l.length = m.length
  · refine Ev.congr (fun k => ?_) (rows_ev l m h hl hin l.length 0 rfl (fun j hj => by omega))
    unfold horariumref14_Rows.f
    rw [if_pos (by omega)]
    rfl
  · rw [decide_eq_false (fun e => h (by rw [e]))]
    refine Ev.congr (f := fun _ => some false) (fun k => ?_) (Ev.now false)
    unfold horariumref14_Rows.f
    rw [if_neg (by omega)]
/-- Is a number among a row's? -/
theorem among_ev (l : List Int) (x : Int) (hl : l.length ≤ 9223372036854775807) : ∀ d i : Nat, d + i = l.length → (∀ j, j < i → l.getD j 0 ≠ x) → Ev (fun k => horariumref14_Has.l0 k l x (i : Int)) (l.contains x) := by
  intro d
  induction d with
  | zero =>
    intro i hi hj
    have : l.contains x = false := by
      rw [List.contains_eq_mem]
      refine decide_eq_false (fun hm => ?_)
      obtain ⟨j, h1, h2⟩ := List.getElem_of_mem hm
      refine hj j (by omega) ?_
      rw [List.getD_eq_getElem?_getD, List.getElem?_eq_getElem h1]
      exact h2
    rw [this]
    refine Ev.step (f := fun _ => some false) (fun k => ?_) (Ev.now false)
    simp only [horariumref14_Has.l0]
    rw [if_neg (by omega)]
  | succ d ih =>
    intro i hi hj
    by_cases he : l.getD i 0 = x
    · have : l.contains x = true := by
        rw [List.contains_eq_mem]
        refine decide_eq_true ?_
        rw [← he, List.getD_eq_getElem?_getD, List.getElem?_eq_getElem (by omega : i < l.length)]
        exact List.getElem_mem _
      rw [this]
      refine Ev.step (f := fun _ => some true) (fun k => ?_) (Ev.now true)
      simp only [horariumref14_Has.l0]
      rw [if_pos (by omega), if_pos (by omega), rd_nat, if_pos he]
    · refine Ev.step (fun k => ?_) (ih (i + 1) (by omega) (fun j h => ?_))
      · simp only [horariumref14_Has.l0]
        rw [if_pos (by omega), if_pos (by omega), rd_nat, if_neg he, wr1 (by omega)]
      · by_cases e : j = i
        · rw [e]; exact he
        · exact hj j (by omega)
theorem among_f (l : List Int) (x : Int) (hl : l.length ≤ 9223372036854775807) : Ev (fun k => horariumref14_Has.f k l x) (l.contains x) := among_ev l x hl l.length 0 rfl (fun j hj => by omega)
theorem contains_nats (l : List Nat) (b : Nat) : (nats l).contains (b : Int) = l.contains b := by
  rw [List.contains_eq_mem, List.contains_eq_mem]
  refine decide_eq_decide.2 ?_
  unfold nats
  rw [List.mem_map]
  constructor
  · rintro ⟨x, hx, he⟩
    have : x = b := by have h2 : (x : Int) = (b : Int) := he; omega
    exact this ▸ hx
  · exact fun h => ⟨b, h, rfl⟩
/-- The document's graph has these joins. -/
structure RefOf (n : Nat) (adj : Adj) (on : List Bool) : Prop where
  le : n ≤ 400
  sane : Sane n adj
  len : on.length = n * n
  on : ∀ a b, a < n → b < n → on.getD (a * n + b) false = adj a b
variable {n : Nat} {adj : Adj} {on : List Bool}
theorem node_f (on : List Bool) (n : Nat) (a : Int) : horariumref23_Node.f n on a = some (isN n a) := by
  unfold horariumref23_Node.f isN
  by_cases h : a ≥ 0
  · rw [if_pos h, decide_eq_true h, Bool.true_and]
  · rw [if_neg h, decide_eq_false h, Bool.false_and]
theorem idx {n a b : Nat} (hn : n ≤ 400) (ha : a < n) (hb : b < n) : wrap64 (wrap64 ((a : Int) * (n : Int)) + (b : Int)) = ((a * n + b : Nat) : Int) ∧ a * n + b < n * n := by
  have h1 : a * n ≤ 399 * 400 := Nat.mul_le_mul (by omega) hn
  have h2 : (a : Int) * (n : Int) = ((a * n : Nat) : Int) := by rw [Int.natCast_mul]
  have h3 : a * n + n ≤ n * n := by rw [← Nat.succ_mul]; exact Nat.mul_le_mul_right _ ha
  have e1 : wrap64 ((a * n : Nat) : Int) = ((a * n : Nat) : Int) := wr (by omega) (by omega)
  rw [h2, e1, wr (by omega) (by omega)]
  omega
theorem has_f (h : RefOf n adj on) (a b : Int) : horariumref23_Has.f n on a b = some (hasN n adj a b) := by
  unfold horariumref23_Has.f hasN
  rw [node_f, Option.bind_some]
  cases ha : isN n a with
  | false => rfl
  | true =>
    rw [if_pos rfl, node_f, Option.bind_some]
    simp only [isN, Bool.and_eq_true, decide_eq_true_eq] at ha
    obtain ⟨x, rfl⟩ := Int.eq_ofNat_of_zero_le ha.1
    cases hb : isN n b with
    | false =>
      simp only [isN, Bool.and_eq_false_iff, decide_eq_false_iff_not] at hb
      rw [if_neg (by decide)]
      by_cases h0 : 0 ≤ b
      · obtain ⟨y, rfl⟩ := Int.eq_ofNat_of_zero_le h0
        have : adj x y = false := by
          cases hxy : adj x y with
          | false => rfl
          | true => have := h.sane.lt2 hxy; omega
        simp [this]
      · simp [h0]
    | true =>
      rw [if_pos rfl]
      simp only [isN, Bool.and_eq_true, decide_eq_true_eq] at hb
      obtain ⟨y, rfl⟩ := Int.eq_ofNat_of_zero_le hb.1
      obtain ⟨e1, e2⟩ := idx (a := x) (b := y) h.le (by omega) (by omega)
      rw [e1, if_pos (by omega), if_pos (by rw [h.len]; omega)]
      unfold rdOf
      rw [Int.toNat_natCast, h.on x y (by omega) (by omega)]
      simp
theorem filt_succ (P : Nat → Bool) (i : Nat) : nats ((List.range (i + 1)).filter P) = nats ((List.range i).filter P) ++ (if P i then [(i : Int)] else []) := by
  rw [List.range_succ, List.filter_append]
  unfold nats
  rw [List.map_append]
  cases h : P i <;> simp [h]
theorem filt_len (P : Nat → Bool) (i : Nat) : (nats ((List.range i).filter P)).length ≤ i := by
  rw [nats_length]
  exact Nat.le_trans (List.length_filter_le _ _) (by rw [List.length_range]; exact Nat.le_refl _)
theorem hasN_nat {a b : Nat} (ha : a < n) : hasN n adj (a : Int) (b : Int) = adj a b := by
  unfold hasN isN
  simp [ha]
theorem near_ev (h : RefOf n adj on) (a : Int) : ∀ d i : Nat, d + i = n → Ev (fun k => horariumref23_Near.l0 k a (nats ((List.range i).filter (fun b => hasN n adj a (b : Int)))) i n on) (nats ((List.range n).filter (fun b => hasN n adj a (b : Int)))) := by
  have hn := h.le
  intro d
  induction d with
  | zero =>
    intro i hi
    obtain rfl : i = n := by omega
    refine Ev.step (f := fun _ => some _) (fun k => ?_) (Ev.now _)
    simp only [horariumref23_Near.l0]
    rw [if_neg (by omega)]
  | succ d ih =>
    intro i hi
    refine Ev.step (fun k => ?_) (ih (i + 1) (by omega))
    have hf := filt_len (fun b => hasN n adj a (b : Int)) i
    simp only [horariumref23_Near.l0]
    rw [if_pos (by omega), has_f h, Option.bind_some, wr1 (by omega), filt_succ]
    cases hh : hasN n adj a (i : Int) with
    | true => rw [if_pos rfl, if_pos (by omega)]; simp
    | false => rw [if_neg (by decide)]; simp
theorem near_f (h : RefOf n adj on) (a : Int) : Ev (fun k => horariumref23_Near.f k n on a) (nearI n adj a) := by
  have := near_ev h a n 0 rfl
  have e : nats ((List.range n).filter (fun b => hasN n adj a (b : Int))) = nearI n adj a := by
    unfold nearI
    by_cases ha : isN n a = true
    · rw [if_pos ha]
      unfold near
      congr 1
      refine List.filter_congr (fun b _ => ?_)
      unfold hasN
      rw [ha]
      simp
    · rw [if_neg ha]
      have : (List.range n).filter (fun b : Nat => hasN n adj a (b : Int)) = [] := by
        rw [List.filter_eq_nil_iff]
        intro b _
        unfold hasN
        simp [ha]
      rw [this]
      rfl
  rw [e] at this
  exact this
/-! ### the search from a node -/
structure SrchIn (n : Nat) (adj : Adj) (a : Nat) (l : List Nat) (i b : Nat) : Prop where
  s : Srch n adj a l i
  lt : i < l.length
  upto : ∀ y, y < b → adj (l.getD i 0) y = true → y ∈ l
theorem getD_app (l : List Nat) (x i : Nat) (h : i < l.length) : (l ++ [x]).getD i 0 = l.getD i 0 := by
  rw [List.getD_eq_getElem?_getD, List.getElem?_append_left h, ← List.getD_eq_getElem?_getD]
theorem out_ev (l : List Nat) (n : Nat) (hn : n ≤ 400) (hl : l.length ≤ 400) (on : List Bool) : ∀ d i : Nat, d + i = n → Ev (fun k => horariumref23_from.l2 k (nats l) (nats ((List.range i).filter l.contains)) i n on) (nats ((List.range n).filter l.contains)) := by
  intro d
  induction d with
  | zero =>
    intro i hi
    obtain rfl : i = n := by omega
    refine Ev.step (f := fun _ => some _) (fun k => ?_) (Ev.now _)
    simp only [horariumref23_from.l2]
    rw [if_neg (by omega)]
  | succ d ih =>
    intro i hi
    have hf := filt_len l.contains i
    have hrun : ∀ k, horariumref23_from.l2 (k + 1) (nats l) (nats ((List.range i).filter l.contains)) i n on = (horariumref14_Has.f k (nats l) i).bind fun t => if t = true then horariumref23_from.l2 k (nats l) (nats ((List.range i).filter l.contains) ++ [(i : Int)]) ((i + 1 : Nat) : Int) n on else horariumref23_from.l2 k (nats l) (nats ((List.range i).filter l.contains)) ((i + 1 : Nat) : Int) n on := by
      intro k
      simp only [horariumref23_from.l2]
      rw [if_pos (by omega), wr1 (by omega), if_pos (by omega)]
    refine Ev.step hrun (Ev.bind (among_f (nats l) i (by rw [nats_length]; omega)) ?_)
    have := ih (i + 1) (by omega)
    rw [filt_succ] at this
    rw [contains_nats]
    cases hc : l.contains i with
    | true => rw [hc] at this; simpa using this
    | false => rw [hc] at this; simpa using this
theorem from_ev (h : RefOf n adj on) {a : Nat} (ha : a < n) : ∀ d i : Nat, ∀ l : List Nat, n ≤ d + i → Srch n adj a l i → Ev (fun k => horariumref23_from.l0 k (nats l) i n on) (nats (comp n adj a)) := by
  have hn := h.le
  have hS := h.sane
  have done : ∀ l : List Nat, Srch n adj a l l.length → Ev (fun k => horariumref23_from.l0 k (nats l) (l.length : Nat) n on) (nats (comp n adj a)) := by
    intro l hs
    have hll := nodup_le hs.nodup hs.lt
    have h2 := out_ev l n hn (by omega) on n 0 rfl
    rw [comp_eq (n := n) (adj := adj) (a := a) (I := l.contains) (fun b => by rw [List.contains_iff_mem]; exact hs.all b)] at h2
    refine Ev.step (fun k => ?_) h2
    simp only [horariumref23_from.l0, nats_length]
    rw [if_neg (by omega)]
    rfl
  intro d
  induction d with
  | zero =>
    intro i l hi hs
    have hll := nodup_le hs.nodup hs.lt
    have := hs.le
    obtain rfl : i = l.length := by omega
    exact done l hs
  | succ d ih =>
    intro i l hi hs
    by_cases hil : i = l.length
    · subst hil
      exact done l hs
    have hle := hs.le
    have inner : ∀ e b : Nat, ∀ l : List Nat, e + b = n → SrchIn n adj a l i b → Ev (fun k => horariumref23_from.l1 k (nats l) i b n on) (nats (comp n adj a)) := by
      intro e
      induction e with
      | zero =>
        intro b l hb hs
        have hll := nodup_le hs.s.nodup hs.s.lt
        refine Ev.step (fun k => ?_) (ih (i + 1) l (by omega) ⟨hs.s.here, hs.s.nodup, hs.s.reach, hs.s.lt, hs.lt, fun j hj y hy => ?_⟩)
        · simp only [horariumref23_from.l1]
          rw [if_neg (by omega), wr1 (by have := hs.lt; omega)]
        · by_cases e : j = i
          · subst e; exact hs.upto y (by have := hS.lt2 hy; omega) hy
          · exact hs.s.shut j (by omega) y hy
      | succ e ihe =>
        intro b l hb hs
        have hll := nodup_le hs.s.nodup hs.s.lt
        have hlt := hs.lt
        have hx : l.getD i 0 ∈ l := getD_mem l i hlt
        have hxn := hs.s.lt _ hx
        have hrun : ∀ k, horariumref23_from.l1 (k + 1) (nats l) i b n on = if adj (l.getD i 0) b = true then ((horariumref14_Has.f k (nats l) b).bind fun t => if t = true then horariumref23_from.l1 k (nats l) i ((b + 1 : Nat) : Int) n on else horariumref23_from.l1 k (nats l ++ [(b : Int)]) i ((b + 1 : Nat) : Int) n on) else horariumref23_from.l1 k (nats l) i ((b + 1 : Nat) : Int) n on := by
          intro k
          simp only [horariumref23_from.l1, nats_length]
          rw [if_pos (by omega), if_pos (by omega), if_pos (by omega), rd_nat, getD_nats l i hlt, has_f h, Option.bind_some, hasN_nat hxn, wr1 (by omega)]
          simp only [if_pos (show l.length < 17592186044416 by omega)]
        cases hadj : adj (l.getD i 0) b with
        | false =>
          refine Ev.step (fun k => by rw [hrun, hadj]; exact if_neg (by decide)) (ihe (b + 1) l (by omega) ⟨hs.s, hlt, fun y hy hay => ?_⟩)
          by_cases e : y = b
          · subst e; rw [hadj] at hay; cases hay
          · exact hs.upto y (by omega) hay
        | true =>
          refine Ev.step (fun k => by rw [hrun, hadj]; exact if_pos rfl) (Ev.bind (among_f (nats l) b (by rw [nats_length]; omega)) ?_)
          rw [contains_nats]
          cases hc : l.contains b with
          | true =>
            have hm : b ∈ l := by simpa using hc
            refine Ev.congr (fun k => if_pos rfl) (ihe (b + 1) l (by omega) ⟨hs.s, hlt, fun y hy hay => ?_⟩)
            by_cases e : y = b
            · subst e; exact hm
            · exact hs.upto y (by omega) hay
          | false =>
            have hm : b ∉ l := by simpa using hc
            have hbn := hS.lt2 hadj
            have hl2 : nats l ++ [(b : Int)] = nats (l ++ [b]) := by simp [nats]
            have hst : SrchIn n adj a (l ++ [b]) i (b + 1) := by
              refine ⟨⟨List.mem_append_left _ hs.s.here, ?_, ?_, ?_, ?_, ?_⟩, ?_, ?_⟩
              · rw [List.nodup_append]
                refine ⟨hs.s.nodup, by simp, fun x hx y hy => ?_⟩
                rw [List.mem_singleton] at hy
                rintro rfl
                exact hm (hy ▸ hx)
              · intro x hx'
                rcases List.mem_append.1 hx' with h1 | h1
                · exact hs.s.reach x h1
                · rw [List.mem_singleton.1 h1]; exact (hs.s.reach _ hx).step hadj
              · intro x hx'
                rcases List.mem_append.1 hx' with h1 | h1
                · exact hs.s.lt x h1
                · rw [List.mem_singleton.1 h1]; exact hbn
              · rw [List.length_append]; have := hs.s.le; omega
              · intro j hj y hy
                rw [getD_app l b j (by omega)] at hy
                exact List.mem_append_left _ (hs.s.shut j hj y hy)
              · rw [List.length_append]; omega
              · intro y hy hay
                rw [getD_app l b i hlt] at hay
                by_cases e : y = b
                · rw [e]; exact List.mem_append_right _ (List.mem_singleton.2 rfl)
                · exact List.mem_append_left _ (hs.upto y (by omega) hay)
            refine Ev.congr (fun k => ?_) (ihe (b + 1) (l ++ [b]) (by omega) hst)
            rw [if_neg (by decide), hl2]
    have hll := nodup_le hs.nodup hs.lt
    refine Ev.step (fun k => ?_) (inner n 0 l rfl ⟨hs, by omega, fun y hy _ => by omega⟩)
    simp only [horariumref23_from.l0, nats_length]
    rw [if_pos (by omega)]
    rfl
theorem from_f (h : RefOf n adj on) {a : Nat} (ha : a < n) : Ev (fun k => horariumref23_from.f k n on a) (nats (comp n adj a)) := by
  refine from_ev h ha n 0 [a] (by omega) ⟨by simp, by simp, fun x hx => ?_, fun x hx => ?_, by simp, fun j hj => by omega⟩
  · rw [List.mem_singleton.1 hx]; exact .refl
  · rw [List.mem_singleton.1 hx]; exact ha
end Go.Proofs.Ytfkmngmnnlgjdaa.Pr

/- The document's parts and shell: plain facts on the printed functions. -/
namespace Go.Proofs.Ytfkmngmnnlgjdaa.Pr
open Go Go.RowKit Go.Proofs.Ytfkmngmnnlgjdaa.Gf Go.Proofs.Ytfkmngmnnlgjdaa.Pu Go.Proofs.Ytfkmngmnnlgjdaa.Gr Go.Proofs.YtfkmngmnnlgjdaaW.PrintWords
variable {n : Nat} {adj : Adj} {on : List Bool}
open Classical in
theorem comp_first (hS : Sane n adj) {a : Nat} (ha : a < n) : ∃ c l, comp n adj a = c :: l ∧ (c = a ↔ Least adj a) := by
  have hm : a ∈ comp n adj a := (mem_comp hS ha).2 .refl
  cases hc : comp n adj a with
  | nil => rw [hc] at hm; cases hm
  | cons c l =>
    refine ⟨c, l, rfl, ?_⟩
    have h1 : (comp n adj a).head? = some c := by rw [hc]; rfl
    unfold comp at h1
    rw [List.head?_filter, List.find?_range_eq_some] at h1
    obtain ⟨h2, h3, h4⟩ := h1
    rw [decide_eq_true_iff] at h2
    have h5 : ∀ j, j < c → ¬ Pu.Reach adj a j := fun j hj hr => by
      have := h4 j hj
      rw [decide_eq_true hr] at this
      exact absurd this (by decide)
    constructor
    · rintro rfl j hj hr
      exact h5 j hj (hr.symm hS)
    · intro hL
      by_cases e : c < a
      · exact absurd (h2.symm hS) (hL c e)
      · by_cases e2 : a < c
        · exact absurd .refl (h5 a e2)
        · omega
theorem parts_ev (h : RefOf n adj on) : ∀ d i : Nat, d + i = n → Ev (fun k => horariumref23_Parts.l0 k ((partsTo n adj i).map nats) i n on) ((parts n adj).map nats) := by
  have hn := h.le
  intro d
  induction d with
  | zero =>
    intro i hi
    obtain rfl : i = n := by omega
    refine Ev.step (f := fun _ => some _) (fun k => ?_) (Ev.now _)
    simp only [horariumref23_Parts.l0]
    rw [if_neg (by omega)]
    rfl
  | succ d ih =>
    intro i hi
    obtain ⟨c, l, hc, hcl⟩ := comp_first h.sane (show i < n by omega)
    have hpl := partsTo_length n adj i
    have hrun : ∀ k, horariumref23_Parts.l0 (k + 1) ((partsTo n adj i).map nats) i n on = (horariumref23_from.f k n on i).bind fun t => if 0 < (t.length : Int) then (if rd t 0 = (i : Int) then horariumref23_Parts.l0 k ((partsTo n adj i).map nats ++ [t]) ((i + 1 : Nat) : Int) n on else horariumref23_Parts.l0 k ((partsTo n adj i).map nats) ((i + 1 : Nat) : Int) n on) else none := by
      intro k
      simp only [horariumref23_Parts.l0]
      rw [if_pos (by omega), wr1 (by omega)]
      simp only [if_pos (show ((partsTo n adj i).map nats).length < 5864062014805 by rw [List.length_map]; omega)]
    refine Ev.step hrun (Ev.bind (from_f h (by omega)) ?_)
    have h0 : rd (nats (comp n adj i)) 0 = (c : Int) := by rw [hc]; rfl
    have h1 : 0 < ((nats (comp n adj i)).length : Int) := by rw [hc, nats_length, List.length_cons]; omega
    have hrest := ih (i + 1) (by omega)
    by_cases hL : Least adj i
    · rw [partsTo_yes hL, List.map_append] at hrest
      refine Ev.congr (fun k => ?_) hrest
      rw [if_pos h1, h0, if_pos (by rw [hcl.2 hL])]
      rfl
    · rw [partsTo_no hL] at hrest
      refine Ev.congr (fun k => ?_) hrest
      rw [if_pos h1, h0, if_neg (fun e => hL (hcl.1 (by omega)))]
theorem parts_f (h : RefOf n adj on) : Ev (fun k => horariumref23_Parts.f k n on) ((parts n adj).map nats) := parts_ev h n 0 rfl
theorem flen_succ (P : Nat → Bool) (i : Nat) : ((List.range (i + 1)).filter P).length = ((List.range i).filter P).length + (if P i then 1 else 0) := by
  rw [List.range_succ, List.filter_append, List.length_append]
  cases h : P i <;> simp [h]
theorem degree_ev (h : RefOf n adj on) (out : List Nat) (hout : out.length ≤ 400) {a : Nat} (ha : a < n) : ∀ d i : Nat, d + i = n → Ev (fun k => horariumref23_degree.l0 k (nats out) a ((((List.range i).filter (fun b => adj a b && !out.contains b)).length : Nat) : Int) i n on) ((deg n adj out a : Nat) : Int) := by
  have hn := h.le
  intro d
  induction d with
  | zero =>
    intro i hi
    obtain rfl : i = n := by omega
    refine Ev.step (f := fun _ => some _) (fun k => ?_) (Ev.now _)
    simp only [horariumref23_degree.l0]
    rw [if_neg (by omega)]
    rfl
  | succ d ih =>
    intro i hi
    have hfl : ((List.range i).filter (fun b => adj a b && !out.contains b)).length ≤ i := Nat.le_trans (List.length_filter_le _ _) (by rw [List.length_range]; exact Nat.le_refl _)
    have hs := flen_succ (fun b => adj a b && !out.contains b) i
    have hrest := ih (i + 1) (by omega)
    rw [hs] at hrest
    clear hs
    generalize ((List.range i).filter (fun b => adj a b && !out.contains b)).length = m at hfl hrest ⊢
    have hrun : ∀ k, horariumref23_degree.l0 (k + 1) (nats out) a (m : Int) i n on = if adj a i = true then ((horariumref14_Has.f k (nats out) i).bind fun t => if t = true then horariumref23_degree.l0 k (nats out) a m ((i + 1 : Nat) : Int) n on else horariumref23_degree.l0 k (nats out) a ((m + 1 : Nat) : Int) ((i + 1 : Nat) : Int) n on) else horariumref23_degree.l0 k (nats out) a m ((i + 1 : Nat) : Int) n on := by
      intro k
      simp only [horariumref23_degree.l0]
      rw [if_pos (by omega), has_f h, Option.bind_some, hasN_nat ha, wr1 (n := i) (by omega), wr1 (n := m) (by omega)]
    cases hadj : adj a i with
    | false =>
      rw [hadj] at hrest
      exact Ev.step (fun k => by rw [hrun, hadj]; exact if_neg (by decide)) hrest
    | true =>
      rw [hadj] at hrest
      refine Ev.step (fun k => by rw [hrun, hadj]; exact if_pos rfl) (Ev.bind (among_f (nats out) i (by rw [nats_length]; omega)) ?_)
      rw [contains_nats]
      cases hc : out.contains i with
      | true => rw [hc] at hrest; simpa using hrest
      | false => rw [hc] at hrest; simpa using hrest
theorem degree_f (h : RefOf n adj on) (out : List Nat) (hout : out.length ≤ 400) {a : Nat} (ha : a < n) : Ev (fun k => horariumref23_degree.f k n on (nats out) a) ((deg n adj out a : Nat) : Int) := degree_ev h out hout ha n 0 rfl
theorem best_ev (h : RefOf n adj on) (out : List Nat) (hout : out.length < n) (R : List Int) (hR : ∀ q, bst n adj out n = some q → Ev (fun k => horariumref23_Shell.l0 k (nats out ++ [(q : Int)]) n on) R) : ∀ d i : Nat, d + i = n → Ev (fun k => horariumref23_Shell.l1 k (nats out) (bestI (bst n adj out i)) i n on) R := by
  have hn := h.le
  intro d
  induction d with
  | zero =>
    intro i hi
    obtain rfl : i = n := by omega
    obtain ⟨q, hq⟩ := bst_fresh (adj := adj) hout
    refine Ev.step (fun k => ?_) (hR q hq)
    simp only [horariumref23_Shell.l1, nats_length]
    rw [if_neg (by omega), if_pos (by omega), hq]
    rfl
  | succ d ih =>
    intro i hi
    have hrest := ih (i + 1) (by omega)
    have hrun : ∀ k, horariumref23_Shell.l1 (k + 1) (nats out) (bestI (bst n adj out i)) i n on = (horariumref14_Has.f k (nats out) i).bind fun t => if t = true then horariumref23_Shell.l1 k (nats out) (bestI (bst n adj out i)) ((i + 1 : Nat) : Int) n on else if bestI (bst n adj out i) < 0 then horariumref23_Shell.l1 k (nats out) i ((i + 1 : Nat) : Int) n on else (horariumref23_degree.f k n on (nats out) i).bind fun t215 => (horariumref23_degree.f k n on (nats out) (bestI (bst n adj out i))).bind fun t216 => if t215 < t216 then horariumref23_Shell.l1 k (nats out) i ((i + 1 : Nat) : Int) n on else horariumref23_Shell.l1 k (nats out) (bestI (bst n adj out i)) ((i + 1 : Nat) : Int) n on := by
      intro k
      simp only [horariumref23_Shell.l1]
      rw [if_pos (by omega), wr1 (by omega)]
    refine Ev.step hrun (Ev.bind (among_f (nats out) i (by rw [nats_length]; omega)) ?_)
    rw [contains_nats]
    cases hc : out.contains i with
    | true =>
      have hb : bst n adj out (i + 1) = bst n adj out i := by simp only [bst, hc, if_true]
      rw [hb] at hrest
      exact Ev.congr (fun k => if_pos rfl) hrest
    | false =>
      refine Ev.congr (fun k => if_neg (by decide)) ?_
      cases hb0 : bst n adj out i with
      | none =>
        have hb : bst n adj out (i + 1) = some i := by simp only [bst, hc, hb0]; rfl
        rw [hb] at hrest
        exact Ev.congr (fun k => if_pos (by decide)) hrest
      | some q =>
        obtain ⟨hq1, hq2, _⟩ := bst_some hb0
        refine Ev.congr (fun k => if_neg (by show ¬ (q : Int) < 0; omega)) ?_
        refine Ev.bind (degree_f h out (by omega) (by omega)) (Ev.bind (degree_f h out (by omega) (show q < n by omega)) ?_)
        by_cases hlq : deg n adj out i < deg n adj out q
        · have hb : bst n adj out (i + 1) = some i := by simp only [bst, hc, hb0]; simp [hlq]
          rw [hb] at hrest
          exact Ev.congr (fun k => if_pos (by omega)) hrest
        · have hb : bst n adj out (i + 1) = some q := by simp only [bst, hc, hb0]; simp [hlq]
          rw [hb] at hrest
          exact Ev.congr (fun k => if_neg (by omega)) hrest
theorem shell_ev (h : RefOf n adj on) : ∀ d j : Nat, d + j = n → Ev (fun k => horariumref23_Shell.l0 k (nats (shl n adj j)) n on) (nats (shell n adj)) := by
  have hn := h.le
  intro d
  induction d with
  | zero =>
    intro j hj
    obtain rfl : j = n := by omega
    refine Ev.step (f := fun _ => some _) (fun k => ?_) (Ev.now _)
    simp only [horariumref23_Shell.l0, nats_length, shl_length]
    rw [if_neg (by omega)]
    rfl
  | succ d ih =>
    intro j hj
    have hl := shl_length n adj j
    refine Ev.step (fun k => ?_) (best_ev h (shl n adj j) (by omega) (nats (shell n adj)) (fun q hq => ?_) n 0 rfl)
    · simp only [horariumref23_Shell.l0, nats_length, hl]
      rw [if_pos (by omega)]
      rfl
    · have := ih (j + 1) (by omega)
      obtain ⟨q', hs, hb⟩ := shl_succ (adj := adj) (show j < n by omega)
      rw [hq] at hb
      injection hb with hb
      subst hb
      rw [hs] at this
      simpa [nats] using this
theorem shell_f (h : RefOf n adj on) : Ev (fun k => horariumref23_Shell.f k n on) (nats (shell n adj)) := shell_ev h n 0 (by omega)
end Go.Proofs.Ytfkmngmnnlgjdaa.Pr

/- The document's Join, walked. -/
namespace Go.Proofs.Ytfkmngmnnlgjdaa.Gr
open Go Go.RowKit Go.Proofs.Ytfkmngmnnlgjdaa.Gf Go.Proofs.Ytfkmngmnnlgjdaa.Pu Go.Proofs.Ytfkmngmnnlgjdaa.Pr Go.Proofs.Ytfkmngmnnlgjdaa.Mw Go.Proofs.YtfkmngmnnlgjdaaW.PrintWords Go.Proofs.YtfkmngmnnlgjdaaW.PrintLast Go.Proofs.YtfkmngmnnlgjdaaW.PrintMore
set_option linter.unusedVariables false
set_option linter.unusedSimpArgs false

/-- The document's graph as a value: what it reads as. -/
structure RIs (w : World) (v : Value) (n : Nat) (adj : Adj) : Prop where
  own : ∃ on : List Bool, Kd.bool.R 4 w 0 (fun _ => True) v on ∧ RefOf n adj on
theorem RIs.rd {w : World} {v : Value} {n : Nat} {adj : Adj} (h : RIs w v n adj) : ∃ A c on, v = .slice A (on : List Bool).length c ∧ on.length ≤ c ∧ Kd.bool.C w A on.length on ∧ RefOf n adj on := by
  obtain ⟨on, hO, hR⟩ := h.own
  obtain ⟨A, c, he, hc, hC⟩ := Kd.R_reads hO
  exact ⟨A, c, on, he, hc, hC, hR⟩
theorem RIs.below {w w' : World} {v : Value} {n : Nat} {adj : Adj} (h : RIs w v n adj) (hb : Below w.heap.size w w') : RIs w' v n adj := by
  obtain ⟨on, hO, hR⟩ := h.own
  exact ⟨on, Kd.R_below hO hb, hR⟩
theorem RIs.grown {w w' : World} {v u : Value} {n : Nat} {adj : Adj} (h : RIs w u n adj) (hg : w.grownBy w' v.ownBlock) (hne : ∀ k, v.ownBlock = some k → some k ≠ u.ownBlock) : RIs w' u n adj := by
  obtain ⟨on, hO, hR⟩ := h.own
  exact ⟨on, Kd.R_grown2 hO rfl hg hne, hR⟩
theorem GIs.ne_ref {w : World} {g n m : Nat} {v u : Value} {adj adj' : Adj} (h : GIs w g v n adj) (hr : RIs w u m adj') (k : Nat) (hk : v.ownBlock = some k) : some k ≠ u.ownBlock := by
  intro e
  obtain ⟨_, rows, hR, _⟩ := h
  obtain ⟨on, hO, _⟩ := hr.own
  obtain ⟨i1, o1⟩ := Kd.R_own hR
  obtain ⟨i2, o2⟩ := Kd.R_own hO
  obtain ⟨c1, h1⟩ := own_typed o1 k hk
  obtain ⟨c2, h2⟩ := own_typed o2 k e.symm
  exact blk_ne h1 h2 (by decide) rfl
theorem RIs.le {w : World} {v : Value} {n : Nat} {adj : Adj} (h : RIs w v n adj) : n ≤ 400 := by
  obtain ⟨A, c, on, he, hc, hC, hR⟩ := h.rd
  exact hR.le
theorem RIs.sane {w : World} {v : Value} {n : Nat} {adj : Adj} (h : RIs w v n adj) : Sane n adj := by
  obtain ⟨A, c, on, he, hc, hC, hR⟩ := h.rd
  exact hR.sane
theorem RNode_is (w : World) (v : Value) (n : Nat) (adj : Adj) (a : Int) (h : RIs w v n adj) :
    Calls Try.prog 31 #[.agg #[.int .i64 n, v], .int .i64 a] w fun e w' => e = .returned (.bool (isN n a)) ∧ Below w.heap.size w w' := by
  obtain ⟨A, c, on, rfl, hc, hC, hR⟩ := h.rd
  exact horariumref23_Node.calls n A c on a (isN n a) w hC hc (node_f on n a)
theorem RHas_is (w : World) (v : Value) (n : Nat) (adj : Adj) (a b : Int) (h : RIs w v n adj) :
    Calls Try.prog 17 #[.agg #[.int .i64 n, v], .int .i64 a, .int .i64 b] w fun e w' => e = .returned (.bool (hasN n adj a b)) ∧ Below w.heap.size w w' := by
  obtain ⟨A, c, on, rfl, hc, hC, hR⟩ := h.rd
  exact horariumref23_Has.calls n A c on a b (hasN n adj a b) w hC hc (Pr.has_f hR a b)
theorem RNear_is (w : World) (v : Value) (n : Nat) (adj : Adj) (a : Int) (h : RIs w v n adj) :
    Calls Try.prog 20 #[.agg #[.int .i64 n, v], .int .i64 a] w fun e w' => ∃ v', e = .returned v' ∧ (Kd.int .i64).R 3 w' w.heap.size (fun _ => True) v' (nearI n adj a) ∧ Below w.heap.size w w' := by
  obtain ⟨A, c, on, rfl, hc, hC, hR⟩ := h.rd
  obtain ⟨k, hk⟩ := (near_f hR a).rounds
  exact horariumref23_Near.calls k n A c on a _ w hC hc hk
theorem RParts_is (w : World) (v : Value) (n : Nat) (adj : Adj) (h : RIs w v n adj) :
    Calls Try.prog 25 #[.agg #[.int .i64 n, v]] w fun e w' => ∃ v', e = .returned v' ∧ Kd.S (Kd.slice 3 (Kd.int .i64)) 38 w' w.heap.size (fun _ => True) v' ((parts n adj).map nats) ∧ Below w.heap.size w w' := by
  obtain ⟨A, c, on, rfl, hc, hC, hR⟩ := h.rd
  obtain ⟨k, hk⟩ := (parts_f hR).rounds
  exact horariumref23_Parts.calls k n A c on _ w hC hc hk
theorem RShell_is (w : World) (v : Value) (n : Nat) (adj : Adj) (h : RIs w v n adj) :
    Calls Try.prog 27 #[.agg #[.int .i64 n, v]] w fun e w' => ∃ v', e = .returned v' ∧ (Kd.int .i64).R 3 w' w.heap.size (fun _ => True) v' (nats (shell n adj)) ∧ Below w.heap.size w w' := by
  obtain ⟨A, c, on, rfl, hc, hC, hR⟩ := h.rd
  obtain ⟨k, hk⟩ := (shell_f hR).rounds
  exact horariumref23_Shell.calls k n A c on _ w hC hc hk
theorem RefOf.new {n : Nat} (hn : n ≤ 400) : RefOf n (fun _ _ => false) (List.replicate (n * n) false) where
  le := hn
  sane := sane_none n
  len := by simp
  on a b ha hb := by
    rw [List.getD_eq_getElem?_getD, List.getElem?_replicate]
    split <;> rfl
theorem RNew_is (w : World) (n : Nat) (hn : n ≤ 400) :
    Calls Try.prog 12 #[.int .i64 n] w fun e w' => ∃ v', e = .returned (.agg #[.int .i64 n, v']) ∧ RIs w' v' n (fun _ _ => false) ∧ Below w.heap.size w w' := by
  have h1 : n * n ≤ 400 * 400 := Nat.mul_le_mul hn hn
  have h2 : (n : Int) * (n : Int) = ((n * n : Nat) : Int) := by rw [Int.natCast_mul]
  have hf : horariumref23_New.f (n : Int) = some ((n : Int), List.replicate (n * n) false) := by
    unfold horariumref23_New.f
    rw [h2, wr (by omega) (by omega), if_pos (by omega), Int.toNat_natCast, if_pos (by omega)]
  refine (horariumref23_New.calls (n : Int) _ _ w hf).mono ?_
  rintro e w' ⟨v, rfl, hR, hB⟩
  exact ⟨v, rfl, ⟨_, Kd.R_lower hR (Nat.zero_le _), RefOf.new hn⟩, hB⟩
/-- Two cells of a row are set. -/
theorem RefOf.put {n : Nat} {adj : Adj} {on : List Bool} (h : RefOf n adj on) {a b : Nat} (ha : a < n) (hb : b < n) (hab : a ≠ b) : RefOf n (Pu.put adj a b) ((on.set (a * n + b) true).set (b * n + a) true) where
  le := h.le
  sane := h.sane.put ha hb hab
  len := by simp [h.len]
  on x y hx hy := by
    have h1 := (idx (a := x) (b := y) h.le hx hy).2
    have h2 := (idx (a := a) (b := b) h.le ha hb).2
    have h3 := (idx (a := b) (b := a) h.le hb ha).2
    have key : ∀ p q r s : Nat, q < n → s < n → (p * n + q = r * n + s ↔ p = r ∧ q = s) := by
      intro p q r s hq hs
      constructor
      · intro e
        have e1 : (p * n + q) / n = p := by rw [Nat.mul_comm, Nat.mul_add_div (by omega), Nat.div_eq_of_lt hq, Nat.add_zero]
        have e2 : (r * n + s) / n = r := by rw [Nat.mul_comm, Nat.mul_add_div (by omega), Nat.div_eq_of_lt hs, Nat.add_zero]
        have e3 : p = r := by rw [← e1, e, e2]
        subst e3
        omega
      · rintro ⟨rfl, rfl⟩; rfl
    have hg : ∀ (l : List Bool) (i j : Nat), i < l.length → (l.set i true).getD j false = if i = j then true else l.getD j false := by
      intro l i j hi
      rw [List.getD_eq_getElem?_getD, List.getElem?_set, List.getD_eq_getElem?_getD]
      by_cases e : i = j
      · subst e; simp [hi]
      · simp [e]
    rw [hg _ _ _ (by rw [List.length_set, h.len]; exact h3), hg _ _ _ (by rw [h.len]; exact h2), h.on x y hx hy]
    unfold Pu.put
    by_cases e1 : b * n + a = x * n + y
    · obtain ⟨rfl, rfl⟩ := (key _ _ _ _ ha hy).1 e1
      simp
    · rw [if_neg e1]
      by_cases e2 : a * n + b = x * n + y
      · obtain ⟨rfl, rfl⟩ := (key _ _ _ _ hb hy).1 e2
        simp
      · rw [if_neg e2]
        have n1 : ¬ (x = b ∧ y = a) := fun h => e1 (by rw [h.1, h.2])
        have n2 : ¬ (x = a ∧ y = b) := fun h => e2 (by rw [h.1, h.2])
        cases adj x y with
        | true => rfl
        | false =>
          simp only [Bool.false_or]
          symm
          rw [Bool.or_eq_false_iff, Bool.and_eq_false_iff, Bool.and_eq_false_iff]
          simp only [beq_eq_false_iff_ne]
          omega
-- WALK
set_option maxRecDepth 100000 in
set_option maxHeartbeats 4000000 in
theorem RJoin_no (w : World) (v : Value) (n : Nat) (adj : Adj) (a b : Int) (h : RIs w v n adj) (hno : joinOk n adj a b = false) :
    Calls Try.prog 13 #[.agg #[.int .i64 n, v], .int .i64 a, .int .i64 b] w fun e w' => ∃ v', e = .returned (.tuple #[.agg #[.int .i64 n, v'], .bool (joinOk n adj a b)]) ∧ RIs w' v' n (jn n adj a b) ∧ Below w.heap.size w w' := by
  have hu29 := Try.underlying29
  have HR := Lib.hid h
  have hn4 := h.le
  obtain ⟨A, c, on, rfl, hc, hC, hR⟩ := h.rd
  have HRef := Aside0.mk hR
  clear hc hC hR h
  by_cases hab : a = b
  · subst hab
    have HJ := Lib.hid (show joinOk n adj a a = false by unfold joinOk; simp)
    go_enter Try.func13, Try.ntmps13
    go_wp2_with (first
      | ((with_reducible refine gate_dst (N := 3) rfl ?_); refine box_event ?hg (N := 3) ?hd (cs := #[.int .i64 n, .slice A on.length c]) (t := 29) ?hr ?_; (case hd => rfl); (case hg => rfl); (case hr => first | (go_simp; done) | (go_simp; rfl)); intro gb hgb w1 hbox hb; have BK := Aside0.mk hbox; have HB := Aside0.mk hb; have HR1 := Aside0.mk (HR.out.below hb); have HG := Aside0.mk (show w.heap.size ≤ gb by rw [hgb]; exact Nat.le_refl _); clear hbox hb hgb)
      | ((with_reducible refine gate_dst (N := 6) rfl ?_); refine box_event ?hg (N := 6) ?hd (cs := #[.int .i64 0, .slice none 0 0]) (t := 29) ?hr ?_; (case hd => rfl); (case hg => rfl); (case hr => first | (go_simp; done) | (go_simp; rfl)); intro ge hge w2 hbox hb; have BE := Aside0.mk hbox; have n1 := Aside0.mk (blk_below BK.out hb); have n3 := Aside0.mk (HR1.out.below hb); have HE := Aside0.mk (show w.heap.size ≤ ge by rw [hge]; exact HB.out.size); have NE := Aside0.mk (show gb ≠ ge by rw [hge]; exact Nat.ne_of_lt (blk_lt BK.out)); have n4 := Aside0.mk (below_then HB.out HB.out.size hb); clear hbox hb hge HB BK HR1; have BK := n1; have HR1 := n3; have HB := n4; clear n1 n3 n4; have hcz0 : w2.cell? ⟨gb, 0, none⟩ = some (.int .i64 n) := (blk_cell BK.out 0).trans rfl; have hcz1 : w2.cell? ⟨gb, 1, none⟩ = some (.slice A on.length c) := (blk_cell BK.out 1).trans rfl; have hfz0 := blk_frozen BK.out 0; have hfz1 := blk_frozen BK.out 1; have hdz0 : w2.cell? ⟨ge, 0, none⟩ = some (.int .i64 0) := (blk_cell BE.out 0).trans rfl; have hdz1 : w2.cell? ⟨ge, 1, none⟩ = some (.slice none 0 0) := (blk_cell BE.out 1).trans rfl; have hgz0 := blk_frozen BE.out 0; have hgz1 := blk_frozen BE.out 1))
    refine bodyPost_ret (results_ct rfl _ _ ge 29 #[.int .i64 n, .slice A on.length c] (0, 0) _ rfl (blk_put (cs := #[.int .i64 n, .slice none 0 0]) (blk_put (cs := #[.int .i64 0, .slice none 0 0]) BE.out 0 _ rfl) 1 _ rfl) hu29 rfl (by kernel_rfl)) rfl ?_
    have hB' := (HB.out.setCell (p := ⟨ge, 0, none⟩) HE.out (.int .i64 n)).setCell (p := ⟨ge, 1, none⟩) HE.out (.slice A on.length c)
    rw [HJ.out]
    refine ⟨_, rfl, ?_, hB'⟩
    rw [show jn n adj _ _ = adj by unfold jn; rw [HJ.out]; rfl]
    exact HR.out.below hB'
  · cases hna : isN n a with
    | false =>
      have HNA := Lib.hid hna
      have HNB := HNA
      have HJ := Lib.hid (show joinOk n adj a b = false by unfold joinOk; rw [hna]; rfl)
      clear hna
      go_enter Try.func13, Try.ntmps13
      go_wp2_with (first
        | ((with_reducible refine gate_dst (N := 3) rfl ?_); refine box_event ?hg (N := 3) ?hd (cs := #[.int .i64 n, .slice A on.length c]) (t := 29) ?hr ?_; (case hd => rfl); (case hg => rfl); (case hr => first | (go_simp; done) | (go_simp; rfl)); intro gb hgb w1 hbox hb; have BK := Aside0.mk hbox; have HB := Aside0.mk hb; have HR1 := Aside0.mk (HR.out.below hb); have HG := Aside0.mk (show w.heap.size ≤ gb by rw [hgb]; exact Nat.le_refl _); clear hbox hb hgb)
        | ((with_reducible refine gate_dst (N := 6) rfl ?_); refine box_event ?hg (N := 6) ?hd (cs := #[.int .i64 0, .slice none 0 0]) (t := 29) ?hr ?_; (case hd => rfl); (case hg => rfl); (case hr => first | (go_simp; done) | (go_simp; rfl)); intro ge hge w2 hbox hb; have BE := Aside0.mk hbox; have n1 := Aside0.mk (blk_below BK.out hb); have n3 := Aside0.mk (HR1.out.below hb); have HE := Aside0.mk (show w.heap.size ≤ ge by rw [hge]; exact HB.out.size); have NE := Aside0.mk (show gb ≠ ge by rw [hge]; exact Nat.ne_of_lt (blk_lt BK.out)); have n4 := Aside0.mk (below_then HB.out HB.out.size hb); clear hbox hb hge HB BK HR1; have BK := n1; have HR1 := n3; have HB := n4; clear n1 n3 n4; have hcz0 : w2.cell? ⟨gb, 0, none⟩ = some (.int .i64 n) := (blk_cell BK.out 0).trans rfl; have hcz1 : w2.cell? ⟨gb, 1, none⟩ = some (.slice A on.length c) := (blk_cell BK.out 1).trans rfl; have hfz0 := blk_frozen BK.out 0; have hfz1 := blk_frozen BK.out 1; have hdz0 : w2.cell? ⟨ge, 0, none⟩ = some (.int .i64 0) := (blk_cell BE.out 0).trans rfl; have hdz1 : w2.cell? ⟨ge, 1, none⟩ = some (.slice none 0 0) := (blk_cell BE.out 1).trans rfl; have hgz0 := blk_frozen BE.out 0; have hgz1 := blk_frozen BE.out 1)
        | (go_at_call 31; refine (RNode_is _ _ n adj _ HR1.out).mono ?_; rintro e w3 ⟨rfl, hb⟩; (first | rw [HNA.out] | rw [HNB.out]); have n1 := Aside0.mk (blk_below BK.out hb); have n2 := Aside0.mk (blk_below BE.out hb); have n3 := Aside0.mk (HR1.out.below hb); have n4 := Aside0.mk (below_then HB.out HB.out.size hb); clear hcz0 hcz1 hfz0 hfz1 hdz0 hdz1 hgz0 hgz1 BK BE HR1 HB hb; have BK := n1; have BE := n2; have HR1 := n3; have HB := n4; clear n1 n2 n3 n4; have hcz0 : w3.cell? ⟨gb, 0, none⟩ = some (.int .i64 n) := (blk_cell BK.out 0).trans rfl; have hcz1 : w3.cell? ⟨gb, 1, none⟩ = some (.slice A on.length c) := (blk_cell BK.out 1).trans rfl; have hfz0 := blk_frozen BK.out 0; have hfz1 := blk_frozen BK.out 1; have hdz0 : w3.cell? ⟨ge, 0, none⟩ = some (.int .i64 0) := (blk_cell BE.out 0).trans rfl; have hdz1 : w3.cell? ⟨ge, 1, none⟩ = some (.slice none 0 0) := (blk_cell BE.out 1).trans rfl; have hgz0 := blk_frozen BE.out 0; have hgz1 := blk_frozen BE.out 1))
      refine bodyPost_ret (results_ct rfl _ _ ge 29 #[.int .i64 n, .slice A on.length c] (0, 0) _ rfl (blk_put (cs := #[.int .i64 n, .slice none 0 0]) (blk_put (cs := #[.int .i64 0, .slice none 0 0]) BE.out 0 _ rfl) 1 _ rfl) hu29 rfl (by kernel_rfl)) rfl ?_
      have hB' := (HB.out.setCell (p := ⟨ge, 0, none⟩) HE.out (.int .i64 n)).setCell (p := ⟨ge, 1, none⟩) HE.out (.slice A on.length c)
      rw [HJ.out]
      refine ⟨_, rfl, ?_, hB'⟩
      rw [show jn n adj _ _ = adj by unfold jn; rw [HJ.out]; rfl]
      exact HR.out.below hB'
    | true =>
    cases hnb : isN n b with
    | false =>
      have HNA := Lib.hid hna
      have HNB := Lib.hid hnb
      have HJ := Lib.hid (show joinOk n adj a b = false by unfold joinOk; rw [hna, hnb]; rfl)
      clear hna hnb
      go_enter Try.func13, Try.ntmps13
      go_wp2_with (first
        | ((with_reducible refine gate_dst (N := 3) rfl ?_); refine box_event ?hg (N := 3) ?hd (cs := #[.int .i64 n, .slice A on.length c]) (t := 29) ?hr ?_; (case hd => rfl); (case hg => rfl); (case hr => first | (go_simp; done) | (go_simp; rfl)); intro gb hgb w1 hbox hb; have BK := Aside0.mk hbox; have HB := Aside0.mk hb; have HR1 := Aside0.mk (HR.out.below hb); have HG := Aside0.mk (show w.heap.size ≤ gb by rw [hgb]; exact Nat.le_refl _); clear hbox hb hgb)
        | ((with_reducible refine gate_dst (N := 6) rfl ?_); refine box_event ?hg (N := 6) ?hd (cs := #[.int .i64 0, .slice none 0 0]) (t := 29) ?hr ?_; (case hd => rfl); (case hg => rfl); (case hr => first | (go_simp; done) | (go_simp; rfl)); intro ge hge w2 hbox hb; have BE := Aside0.mk hbox; have n1 := Aside0.mk (blk_below BK.out hb); have n3 := Aside0.mk (HR1.out.below hb); have HE := Aside0.mk (show w.heap.size ≤ ge by rw [hge]; exact HB.out.size); have NE := Aside0.mk (show gb ≠ ge by rw [hge]; exact Nat.ne_of_lt (blk_lt BK.out)); have n4 := Aside0.mk (below_then HB.out HB.out.size hb); clear hbox hb hge HB BK HR1; have BK := n1; have HR1 := n3; have HB := n4; clear n1 n3 n4; have hcz0 : w2.cell? ⟨gb, 0, none⟩ = some (.int .i64 n) := (blk_cell BK.out 0).trans rfl; have hcz1 : w2.cell? ⟨gb, 1, none⟩ = some (.slice A on.length c) := (blk_cell BK.out 1).trans rfl; have hfz0 := blk_frozen BK.out 0; have hfz1 := blk_frozen BK.out 1; have hdz0 : w2.cell? ⟨ge, 0, none⟩ = some (.int .i64 0) := (blk_cell BE.out 0).trans rfl; have hdz1 : w2.cell? ⟨ge, 1, none⟩ = some (.slice none 0 0) := (blk_cell BE.out 1).trans rfl; have hgz0 := blk_frozen BE.out 0; have hgz1 := blk_frozen BE.out 1)
        | (go_at_call 31; refine (RNode_is _ _ n adj _ HR1.out).mono ?_; rintro e w3 ⟨rfl, hb⟩; (first | rw [HNA.out] | rw [HNB.out]); have n1 := Aside0.mk (blk_below BK.out hb); have n2 := Aside0.mk (blk_below BE.out hb); have n3 := Aside0.mk (HR1.out.below hb); have n4 := Aside0.mk (below_then HB.out HB.out.size hb); clear hcz0 hcz1 hfz0 hfz1 hdz0 hdz1 hgz0 hgz1 BK BE HR1 HB hb; have BK := n1; have BE := n2; have HR1 := n3; have HB := n4; clear n1 n2 n3 n4; have hcz0 : w3.cell? ⟨gb, 0, none⟩ = some (.int .i64 n) := (blk_cell BK.out 0).trans rfl; have hcz1 : w3.cell? ⟨gb, 1, none⟩ = some (.slice A on.length c) := (blk_cell BK.out 1).trans rfl; have hfz0 := blk_frozen BK.out 0; have hfz1 := blk_frozen BK.out 1; have hdz0 : w3.cell? ⟨ge, 0, none⟩ = some (.int .i64 0) := (blk_cell BE.out 0).trans rfl; have hdz1 : w3.cell? ⟨ge, 1, none⟩ = some (.slice none 0 0) := (blk_cell BE.out 1).trans rfl; have hgz0 := blk_frozen BE.out 0; have hgz1 := blk_frozen BE.out 1))
      refine bodyPost_ret (results_ct rfl _ _ ge 29 #[.int .i64 n, .slice A on.length c] (0, 0) _ rfl (blk_put (cs := #[.int .i64 n, .slice none 0 0]) (blk_put (cs := #[.int .i64 0, .slice none 0 0]) BE.out 0 _ rfl) 1 _ rfl) hu29 rfl (by kernel_rfl)) rfl ?_
      have hB' := (HB.out.setCell (p := ⟨ge, 0, none⟩) HE.out (.int .i64 n)).setCell (p := ⟨ge, 1, none⟩) HE.out (.slice A on.length c)
      rw [HJ.out]
      refine ⟨_, rfl, ?_, hB'⟩
      rw [show jn n adj _ _ = adj by unfold jn; rw [HJ.out]; rfl]
      exact HR.out.below hB'
    | true =>
    cases hh : hasN n adj a b with
    | true =>
      have HNA := Lib.hid hna
      have HNB := Lib.hid hnb
      have HH := Lib.hid hh
      have HJ := Lib.hid (show joinOk n adj a b = false by unfold joinOk; rw [hna, hnb, hh]; simp)
      clear hna hnb hh
      go_enter Try.func13, Try.ntmps13
      go_wp2_with (first
        | ((with_reducible refine gate_dst (N := 3) rfl ?_); refine box_event ?hg (N := 3) ?hd (cs := #[.int .i64 n, .slice A on.length c]) (t := 29) ?hr ?_; (case hd => rfl); (case hg => rfl); (case hr => first | (go_simp; done) | (go_simp; rfl)); intro gb hgb w1 hbox hb; have BK := Aside0.mk hbox; have HB := Aside0.mk hb; have HR1 := Aside0.mk (HR.out.below hb); have HG := Aside0.mk (show w.heap.size ≤ gb by rw [hgb]; exact Nat.le_refl _); clear hbox hb hgb)
        | ((with_reducible refine gate_dst (N := 6) rfl ?_); refine box_event ?hg (N := 6) ?hd (cs := #[.int .i64 0, .slice none 0 0]) (t := 29) ?hr ?_; (case hd => rfl); (case hg => rfl); (case hr => first | (go_simp; done) | (go_simp; rfl)); intro ge hge w2 hbox hb; have BE := Aside0.mk hbox; have n1 := Aside0.mk (blk_below BK.out hb); have n3 := Aside0.mk (HR1.out.below hb); have HE := Aside0.mk (show w.heap.size ≤ ge by rw [hge]; exact HB.out.size); have NE := Aside0.mk (show gb ≠ ge by rw [hge]; exact Nat.ne_of_lt (blk_lt BK.out)); have n4 := Aside0.mk (below_then HB.out HB.out.size hb); clear hbox hb hge HB BK HR1; have BK := n1; have HR1 := n3; have HB := n4; clear n1 n3 n4; have hcz0 : w2.cell? ⟨gb, 0, none⟩ = some (.int .i64 n) := (blk_cell BK.out 0).trans rfl; have hcz1 : w2.cell? ⟨gb, 1, none⟩ = some (.slice A on.length c) := (blk_cell BK.out 1).trans rfl; have hfz0 := blk_frozen BK.out 0; have hfz1 := blk_frozen BK.out 1; have hdz0 : w2.cell? ⟨ge, 0, none⟩ = some (.int .i64 0) := (blk_cell BE.out 0).trans rfl; have hdz1 : w2.cell? ⟨ge, 1, none⟩ = some (.slice none 0 0) := (blk_cell BE.out 1).trans rfl; have hgz0 := blk_frozen BE.out 0; have hgz1 := blk_frozen BE.out 1)
        | (go_at_call 31; refine (RNode_is _ _ n adj _ HR1.out).mono ?_; rintro e w3 ⟨rfl, hb⟩; (first | rw [HNA.out] | rw [HNB.out]); have n1 := Aside0.mk (blk_below BK.out hb); have n2 := Aside0.mk (blk_below BE.out hb); have n3 := Aside0.mk (HR1.out.below hb); have n4 := Aside0.mk (below_then HB.out HB.out.size hb); clear hcz0 hcz1 hfz0 hfz1 hdz0 hdz1 hgz0 hgz1 BK BE HR1 HB hb; have BK := n1; have BE := n2; have HR1 := n3; have HB := n4; clear n1 n2 n3 n4; have hcz0 : w3.cell? ⟨gb, 0, none⟩ = some (.int .i64 n) := (blk_cell BK.out 0).trans rfl; have hcz1 : w3.cell? ⟨gb, 1, none⟩ = some (.slice A on.length c) := (blk_cell BK.out 1).trans rfl; have hfz0 := blk_frozen BK.out 0; have hfz1 := blk_frozen BK.out 1; have hdz0 : w3.cell? ⟨ge, 0, none⟩ = some (.int .i64 0) := (blk_cell BE.out 0).trans rfl; have hdz1 : w3.cell? ⟨ge, 1, none⟩ = some (.slice none 0 0) := (blk_cell BE.out 1).trans rfl; have hgz0 := blk_frozen BE.out 0; have hgz1 := blk_frozen BE.out 1)
        | (go_at_call 17; refine (RHas_is _ _ n adj _ _ HR1.out).mono ?_; rintro e w4 ⟨rfl, hb⟩; rw [HH.out]; have n1 := Aside0.mk (blk_below BK.out hb); have n2 := Aside0.mk (blk_below BE.out hb); have n3 := Aside0.mk (HR1.out.below hb); have n4 := Aside0.mk (below_then HB.out HB.out.size hb); clear hcz0 hcz1 hfz0 hfz1 hdz0 hdz1 hgz0 hgz1 BK BE HR1 HB hb; have BK := n1; have BE := n2; have HR1 := n3; have HB := n4; clear n1 n2 n3 n4; have hcz0 : w4.cell? ⟨gb, 0, none⟩ = some (.int .i64 n) := (blk_cell BK.out 0).trans rfl; have hcz1 : w4.cell? ⟨gb, 1, none⟩ = some (.slice A on.length c) := (blk_cell BK.out 1).trans rfl; have hfz0 := blk_frozen BK.out 0; have hfz1 := blk_frozen BK.out 1; have hdz0 : w4.cell? ⟨ge, 0, none⟩ = some (.int .i64 0) := (blk_cell BE.out 0).trans rfl; have hdz1 : w4.cell? ⟨ge, 1, none⟩ = some (.slice none 0 0) := (blk_cell BE.out 1).trans rfl; have hgz0 := blk_frozen BE.out 0; have hgz1 := blk_frozen BE.out 1))
      refine bodyPost_ret (results_ct rfl _ _ ge 29 #[.int .i64 n, .slice A on.length c] (0, 0) _ rfl (blk_put (cs := #[.int .i64 n, .slice none 0 0]) (blk_put (cs := #[.int .i64 0, .slice none 0 0]) BE.out 0 _ rfl) 1 _ rfl) hu29 rfl (by kernel_rfl)) rfl ?_
      have hB' := (HB.out.setCell (p := ⟨ge, 0, none⟩) HE.out (.int .i64 n)).setCell (p := ⟨ge, 1, none⟩) HE.out (.slice A on.length c)
      rw [HJ.out]
      refine ⟨_, rfl, ?_, hB'⟩
      rw [show jn n adj _ _ = adj by unfold jn; rw [HJ.out]; rfl]
      exact HR.out.below hB'
    | false =>
      have hj : joinOk n adj a b = true := by unfold joinOk; rw [hna, hnb, hh]; simp [hab]
      rw [hno] at hj
      cases hj
end Go.Proofs.Ytfkmngmnnlgjdaa.Gr

/- The document's Join where it joins. -/
namespace Go.Proofs.Ytfkmngmnnlgjdaa.Gr
open Go Go.RowKit Go.Proofs.Ytfkmngmnnlgjdaa.Gf Go.Proofs.Ytfkmngmnnlgjdaa.Pu Go.Proofs.Ytfkmngmnnlgjdaa.Pr Go.Proofs.Ytfkmngmnnlgjdaa.Mw Go.Proofs.YtfkmngmnnlgjdaaW.PrintWords Go.Proofs.YtfkmngmnnlgjdaaW.PrintLast Go.Proofs.YtfkmngmnnlgjdaaW.PrintMore
set_option linter.unusedVariables false
set_option linter.unusedSimpArgs false
theorem infoB : (Try.prog.info? 4).map (fun i => (i.zero, i.size, i.bytes)) = some (some (.bool false), 1, 1) := by kernel_rfl
theorem grown_none {w w1 : World} (hg : w.grownBy w1 none) : Below w.heap.size w w1 := (Below.refl w.heap.size w).grown hg (Nat.le_refl _) (fun k e => by cases e)
def RJoinR.T4 : Bool × List (List Nat × List Nat) := (true, [([], []), ([], []), ([], []), ([2], [2]), ([1, 3], [1, 3]), ([], []), ([4, 5], [4, 5]), ([], []), ([], []), ([], []), ([9], [9]), ([8, 10], [8, 10]), ([], []), ([11, 12], [11, 12]), ([0, 6, 0, 1, 2, 3, 4, 5, 6], [0, 6]), ([14, 0, 1, 2, 3, 4, 5, 6], [14]), ([7, 13, 0, 1, 2, 3, 4, 5, 6, 7, 8, 9, 10, 11, 12, 13, 14, 15], [7, 13]), ([16, 15, 0, 1, 2, 3, 4, 5, 6, 7, 8, 9, 10, 11, 12, 13, 14, 15], [16])])
def RJoinR.B4 : List Nat := [0, 0, 0, 4, 14, 0, 62, 0, 0, 0, 512, 1792, 0, 7936, 127, 16511, 65535, 131071]
theorem RJoinR.tab4 : rtab .any (opsOf Try.f13 4) = RJoinR.T4 := by kernel_rfl
theorem RJoinR.bits4 : waitsOk RJoinR.T4.2 RJoinR.B4 = true := by kernel_rfl
theorem R_full {α : Type} {d : Kd α} {w : World} {e base : Nat} {ok : Nat → Prop} {v : Value} {xs : List α} (hR : d.R e w base ok v xs) (h : 0 < xs.length) : ∃ ga c, v = .slice (some ⟨ga, 0, none⟩) xs.length c := by
  obtain ⟨inner, ho⟩ := Kd.R_own hR
  obtain ⟨_, h2 | ⟨b, cap, cur, he, _⟩⟩ := ho
  · have := h2.2
    omega
  · exact ⟨b, cap, he⟩
set_option maxRecDepth 100000 in
set_option maxHeartbeats 4000000 in
theorem RJoin_yes (w : World) (v : Value) (n : Nat) (adj : Adj) (x y : Nat) (h : RIs w v n adj) (hx : x < n) (hy : y < n) (hxy : x ≠ y) (hadj : adj x y = false) :
    Calls Try.prog 13 #[.agg #[.int .i64 n, v], .int .i64 x, .int .i64 y] w fun e w' => ∃ v', e = .returned (.tuple #[.agg #[.int .i64 n, v'], .bool true]) ∧ RIs w' v' n (Pu.put adj x y) ∧ Below w.heap.size w w' := by
  have hu29 := Try.underlying29
  have HR := Lib.hid h
  have hn4 := h.le
  obtain ⟨A, c, on, rfl, hc, hC, hR⟩ := h.rd
  have HRef := Aside0.mk hR
  have HC := Aside0.mk hC
  clear hc hC hR h
  have hab : ((x : Int) == (y : Int)) = false := by simpa using (show ¬ (x : Int) = (y : Int) by omega)
  have HNA := Lib.hid (show isN n (x : Int) = true by unfold isN; simp [hx])
  have HNB := Lib.hid (show isN n (y : Int) = true by unfold isN; simp [hy])
  have HH := Lib.hid (show hasN n adj (x : Int) (y : Int) = false by rw [hasN_nat hx]; exact hadj)
  clear hadj
  have hidx := idx (a := x) (b := y) hn4 hx hy
  have hidy := idx (a := y) (b := x) hn4 hy hx
  have hlen := HRef.out.len
  have hnn : n * n ≤ 400 * 400 := Nat.mul_le_mul hn4 hn4
  have HLen := Aside0.mk hlen
  have HNN := Aside0.mk hnn
  clear hlen hnn
  have HX := Aside0.mk hidx
  have HY := Aside0.mk hidy
  clear hidx hidy
  go_enter Try.func13, Try.ntmps13
  go_wp2_with (first
    | ((with_reducible refine gate_dst (N := 3) rfl ?_); refine box_event ?hg (N := 3) ?hd (cs := #[.int .i64 n, .slice A on.length c]) (t := 29) ?hr ?_; (case hd => rfl); (case hg => rfl); (case hr => first | (go_simp; done) | (go_simp; rfl)); intro gb hgb w1 hbox hb; have BK := Aside0.mk hbox; have HB := Aside0.mk hb; have HR1 := Aside0.mk (HR.out.below hb); have HG := Aside0.mk (show w.heap.size ≤ gb by rw [hgb]; exact Nat.le_refl _); clear hbox hb hgb)
    | ((with_reducible refine gate_dst (N := 6) rfl ?_); refine box_event ?hg (N := 6) ?hd (cs := #[.int .i64 0, .slice none 0 0]) (t := 29) ?hr ?_; (case hd => rfl); (case hg => rfl); (case hr => first | (go_simp; done) | (go_simp; rfl)); intro ge hge w2 hbox hb; have BE := Aside0.mk hbox; have n1 := Aside0.mk (blk_below BK.out hb); have n3 := Aside0.mk (HR1.out.below hb); have HE := Aside0.mk (show w.heap.size ≤ ge by rw [hge]; exact HB.out.size); have NE := Aside0.mk (show gb ≠ ge by rw [hge]; exact Nat.ne_of_lt (blk_lt BK.out)); have n4 := Aside0.mk (below_then HB.out HB.out.size hb); clear hbox hb hge HB BK HR1; have BK := n1; have HR1 := n3; have HB := n4; clear n1 n3 n4; have hcz0 : w2.cell? ⟨gb, 0, none⟩ = some (.int .i64 n) := (blk_cell BK.out 0).trans rfl; have hcz1 : w2.cell? ⟨gb, 1, none⟩ = some (.slice A on.length c) := (blk_cell BK.out 1).trans rfl; have hfz0 := blk_frozen BK.out 0; have hfz1 := blk_frozen BK.out 1; have hdz0 : w2.cell? ⟨ge, 0, none⟩ = some (.int .i64 0) := (blk_cell BE.out 0).trans rfl; have hdz1 : w2.cell? ⟨ge, 1, none⟩ = some (.slice none 0 0) := (blk_cell BE.out 1).trans rfl; have hgz0 := blk_frozen BE.out 0; have hgz1 := blk_frozen BE.out 1)
    | (go_at_call 31; refine (RNode_is _ _ n adj _ HR1.out).mono ?_; rintro e w3 ⟨rfl, hb⟩; (first | rw [HNA.out] | rw [HNB.out]); have n1 := Aside0.mk (blk_below BK.out hb); have n2 := Aside0.mk (blk_below BE.out hb); have n3 := Aside0.mk (HR1.out.below hb); have n4 := Aside0.mk (below_then HB.out HB.out.size hb); clear hcz0 hcz1 hfz0 hfz1 hdz0 hdz1 hgz0 hgz1 BK BE HR1 HB hb; have BK := n1; have BE := n2; have HR1 := n3; have HB := n4; clear n1 n2 n3 n4; have hcz0 : w3.cell? ⟨gb, 0, none⟩ = some (.int .i64 n) := (blk_cell BK.out 0).trans rfl; have hcz1 : w3.cell? ⟨gb, 1, none⟩ = some (.slice A on.length c) := (blk_cell BK.out 1).trans rfl; have hfz0 := blk_frozen BK.out 0; have hfz1 := blk_frozen BK.out 1; have hdz0 : w3.cell? ⟨ge, 0, none⟩ = some (.int .i64 0) := (blk_cell BE.out 0).trans rfl; have hdz1 : w3.cell? ⟨ge, 1, none⟩ = some (.slice none 0 0) := (blk_cell BE.out 1).trans rfl; have hgz0 := blk_frozen BE.out 0; have hgz1 := blk_frozen BE.out 1)
    | (go_at_call 17; refine (RHas_is _ _ n adj _ _ HR1.out).mono ?_; rintro e w4 ⟨rfl, hb⟩; rw [HH.out]; have n1 := Aside0.mk (blk_below BK.out hb); have n2 := Aside0.mk (blk_below BE.out hb); have n3 := Aside0.mk (HR1.out.below hb); have n4 := Aside0.mk (below_then HB.out HB.out.size hb); clear hcz0 hcz1 hfz0 hfz1 hdz0 hdz1 hgz0 hgz1 BK BE HR1 HB hb; have BK := n1; have BE := n2; have HR1 := n3; have HB := n4; clear n1 n2 n3 n4; have hcz0 : w4.cell? ⟨gb, 0, none⟩ = some (.int .i64 n) := (blk_cell BK.out 0).trans rfl; have hcz1 : w4.cell? ⟨gb, 1, none⟩ = some (.slice A on.length c) := (blk_cell BK.out 1).trans rfl; have hfz0 := blk_frozen BK.out 0; have hfz1 := blk_frozen BK.out 1; have hdz0 : w4.cell? ⟨ge, 0, none⟩ = some (.int .i64 0) := (blk_cell BE.out 0).trans rfl; have hdz1 : w4.cell? ⟨ge, 1, none⟩ = some (.slice none 0 0) := (blk_cell BE.out 1).trans rfl; have hgz0 := blk_frozen BE.out 0; have hgz1 := blk_frozen BE.out 1)
    | ((with_reducible refine gate_dst (N := 31) rfl ?_); go_loud (refine Kd.R_lit Kd.bool w.heap.size 4 ?hg (N := 31) ?hd (xs := ([] : List Bool)) (inner := []) (ok := fun _ => True) (okp := fun _ => True) ?hr ?hp (fun _ hk => hk) trivial HB.out HB.out.size (by simp) ?_; (case hd => rfl); (case hg => rfl); (case hr => first | (go_simp; done) | (go_simp; rfl)); (case hp => exact (Reps.none _ _)); intro v31 w5 hR5 hb0 hg5 hnew; have HL := Aside0.mk hR5; clear hR5 hb0 hnew; have hb := grown_none hg5; clear hg5; have n1 := Aside0.mk (blk_below BK.out hb); have n2 := Aside0.mk (blk_below BE.out hb); have n3 := Aside0.mk (HR1.out.below hb); have n4 := Aside0.mk (below_then HB.out HB.out.size hb); clear hcz0 hcz1 hfz0 hfz1 hdz0 hdz1 hgz0 hgz1 BK BE HR1 HB hb; have BK := n1; have BE := n2; have HR1 := n3; have HB := n4; clear n1 n2 n3 n4; have hcz0 : w5.cell? ⟨gb, 0, none⟩ = some (.int .i64 n) := (blk_cell BK.out 0).trans rfl; have hcz1 : w5.cell? ⟨gb, 1, none⟩ = some (.slice A on.length c) := (blk_cell BK.out 1).trans rfl; have hfz0 := blk_frozen BK.out 0; have hfz1 := blk_frozen BK.out 1; have hdz0 : w5.cell? ⟨ge, 0, none⟩ = some (.int .i64 0) := (blk_cell BE.out 0).trans rfl; have hdz1 : w5.cell? ⟨ge, 1, none⟩ = some (.slice none 0 0) := (blk_cell BE.out 1).trans rfl; have hgz0 := blk_frozen BE.out 0; have hgz1 := blk_frozen BE.out 1))
    | ((with_reducible refine gate_builtin (b := .append) (xs := #[.tmp 31, .tmp 33]) rfl ?_); go_loud (refine Kd.R_append_row Value.bool false (w0 := w) w.heap.size rfl (.tmp 31) (.tmp 33) 27 4 (.bool false) 1 rfl Try.underlying27 infoB rfl (by decide) _ [] on A on.length c (fun _ => True) rfl rfl (fun _ _ => trivial) HL.out (Kd.C_below HC.out HB.out) HB.out HB.out.size (by have := HLen.out; have := HNN.out; simp; omega) ?_; intro v34 w6 hR6 hb6 hg6 hat6; have n1 := Aside0.mk (blk_grown BK.out hg6 (Kd.R_ne HL.out BK.out (by decide))); have n2 := Aside0.mk (blk_grown BE.out hg6 (Kd.R_ne HL.out BE.out (by decide))); rw [List.nil_append] at hR6; obtain ⟨ga, ca, rfl⟩ := R_full hR6 (by have := HLen.out; have := HX.out.2; omega); have HV := Aside0.mk hR6; clear hcz0 hcz1 hfz0 hfz1 hdz0 hdz1 hgz0 hgz1 BK BE HR1 HB hg6 hat6 hR6 HL; have BK := n1; have BE := n2; have HB := Aside0.mk hb6; clear n1 n2 hb6; have hcz0 : w6.cell? ⟨gb, 0, none⟩ = some (.int .i64 n) := (blk_cell BK.out 0).trans rfl; have hcz1 : w6.cell? ⟨gb, 1, none⟩ = some (.slice A on.length c) := (blk_cell BK.out 1).trans rfl; have hfz0 := blk_frozen BK.out 0; have hfz1 := blk_frozen BK.out 1; have hdz0 : w6.cell? ⟨ge, 0, none⟩ = some (.int .i64 0) := (blk_cell BE.out 0).trans rfl; have hdz1 : w6.cell? ⟨ge, 1, none⟩ = some (.slice none 0 0) := (blk_cell BE.out 1).trans rfl; have hgz0 := blk_frozen BE.out 0; have hgz1 := blk_frozen BE.out 1)))
  have hP : wrap64 (wrap64 ((x : Int) * (n : Int)) + (y : Int)) = ((x * n + y : Nat) : Int) := HX.out.1
  have hQ : wrap64 (wrap64 ((y : Int) * (n : Int)) + (x : Int)) = ((y * n + x : Nat) : Int) := HY.out.1
  have hp : x * n + y < on.length := by rw [HLen.out]; exact HX.out.2
  have hq : y * n + x < on.length := by rw [HLen.out]; exact HY.out.2
  have HPut := Aside0.mk (RefOf.put HRef.out hx hy hxy)
  clear HX HY
  generalize x * n + y = p at hP hp HPut
  generalize y * n + x = q at hQ hq HPut
  have hp' : (p : Int) < (on.length : Int) := by omega
  have hq' : (q : Int) < (on.length : Int) := by omega
  clear hcz1 hfz0 hfz1 hdz0 hdz1 hgz0 hgz1
  refine start_ (n := 18) (S := (fun w' => w'.cell? ⟨gb, 0, none⟩ = some (.int .i64 n))) (ds := []) #[false, false, false, false, false, false, false, false, false, false, false, false, false, false, false, false, false, false] (by kernel_rfl) rfl rfl hcz0 (fun hHeld => ?_); refine with_tabW RJoinR.tab4 RJoinR.bits4 (fun HT_ HW_ => ?_)
  have BK' : Aside0 (w6.drew.heap[gb]? = some (Obj.cells #[.int .i64 n, .slice A on.length c] 29 (0, 0))) := BK
  have BE' : Aside0 (w6.drew.heap[ge]? = some (Obj.cells #[.int .i64 0, .slice none 0 0] 29 (0, 0))) := BE
  have HB' := Aside0.mk (below_drew HB.out)
  have HV' := Aside0.mk (Kd.R_drew HV.out)
  clear BK BE HB HV
  generalize w6.drew = wx at BK' BE' HB' HV' hHeld ⊢
  have hc0 := Kd.R_cell false HV'.out (p : Int) (by omega) (by omega)
  rw [Int.toNat_natCast] at hc0
  obtain ⟨hc1, hc2⟩ := hc0
  refine pure_ (i := 0) (N := some 35) (v := ?_) (a' := ?_) #[true, false, false, false, false, false, false, false, false, false, false, false, false, false, false, false, false, false] rfl rfl (any_of HT_.out (by kernel_rfl)) (fun _ _ _ h => h) (Or.inl ⟨by rfl, ?_⟩) ?_ ?_
  rotate_left
  · intro w'
    go_simp
    with_reducible rfl
  rotate_left
  · simp only [Act.put, List.setIfInBounds_toArray, List.set_cons_zero, List.set_cons_succ, i64_w, i32_w]
    rfl
  refine pure_ (i := 1) (N := some 36) (v := ?_) (a' := ?_) #[true, true, false, false, false, false, false, false, false, false, false, false, false, false, false, false, false, false] rfl rfl (any_of HT_.out (by kernel_rfl)) (fun _ _ _ h => h) (Or.inl ⟨by rfl, ?_⟩) ?_ ?_
  rotate_left
  · intro w'
    go_simp
    with_reducible rfl
  rotate_left
  · simp only [Act.put, List.setIfInBounds_toArray, List.set_cons_zero, List.set_cons_succ, i64_w, i32_w]
    rfl
  refine pure_ (i := 2) (N := some 37) (v := ?_) (a' := ?_) #[true, true, true, false, false, false, false, false, false, false, false, false, false, false, false, false, false, false] rfl rfl (any_of HT_.out (by kernel_rfl)) (fun _ _ _ h => h) (Or.inl ⟨by rfl, ?_⟩) ?_ ?_
  rotate_left
  · intro w'
    go_simp
    with_reducible rfl
  rotate_left
  · simp only [Act.put, List.setIfInBounds_toArray, List.set_cons_zero, List.set_cons_succ, i64_w, i32_w]
    rfl
  refine take_ (i := 3) (N := some 38) (v := ?_) (a' := ?_) #[true, true, true, true, false, false, false, false, false, false, false, false, false, false, false, false, false, false] rfl rfl (take_ofW HT_.out HW_.out (by kernel_rfl)) (fun _ _ _ h => h) (Or.inl ⟨by rfl, ?_⟩) hHeld ?_ ?_
  rotate_left
  · intro w' s0
    skip
    go_simp
    with_reducible rfl
  rotate_left
  · simp only [Act.put, List.setIfInBounds_toArray, List.set_cons_zero, List.set_cons_succ, i64_w, i32_w]
    rfl
  refine pure_ (i := 4) (N := some 39) (v := ?_) (a' := ?_) #[true, true, true, true, true, false, false, false, false, false, false, false, false, false, false, false, false, false] rfl rfl (any_of HT_.out (by kernel_rfl)) (fun _ _ _ h => h) (Or.inl ⟨by rfl, ?_⟩) ?_ ?_
  rotate_left
  · intro w'
    go_simp
    with_reducible rfl
  rotate_left
  · simp only [Act.put, List.setIfInBounds_toArray, List.set_cons_zero, List.set_cons_succ, i64_w, i32_w]
    rfl
  refine pure_ (i := 5) (N := some 40) (v := ?_) (a' := ?_) #[true, true, true, true, true, true, false, false, false, false, false, false, false, false, false, false, false, false] rfl rfl (any_of HT_.out (by kernel_rfl)) (fun _ _ _ h => h) (Or.inl ⟨by rfl, ?_⟩) ?_ ?_
  rotate_left
  · intro w'
    go_simp
    with_reducible rfl
  rotate_left
  · simp only [Act.put, List.setIfInBounds_toArray, List.set_cons_zero, List.set_cons_succ, i64_w, i32_w]
    rfl
  refine pure_ (i := 6) (N := some 41) (v := ?_) (a' := ?_) #[true, true, true, true, true, true, true, false, false, false, false, false, false, false, false, false, false, false] rfl rfl (any_of HT_.out (by kernel_rfl)) (fun _ _ _ h => h) (Or.inl ⟨by rfl, ?_⟩) ?_ ?_
  rotate_left
  · intro w'
    go_simp
    with_reducible rfl
  rotate_left
  · simp only [Act.put, List.setIfInBounds_toArray, List.set_cons_zero, List.set_cons_succ, i64_w, i32_w]
    rfl
  refine pure_ (i := 7) (N := some 42) (v := ?_) (a' := ?_) #[true, true, true, true, true, true, true, true, false, false, false, false, false, false, false, false, false, false] rfl rfl (any_of HT_.out (by kernel_rfl)) (fun _ _ _ h => h) (Or.inl ⟨by rfl, ?_⟩) ?_ ?_
  rotate_left
  · intro w'
    go_simp
    with_reducible rfl
  rotate_left
  · simp only [Act.put, List.setIfInBounds_toArray, List.set_cons_zero, List.set_cons_succ, i64_w, i32_w]
    rfl
  refine pure_ (i := 8) (N := some 43) (v := ?_) (a' := ?_) #[true, true, true, true, true, true, true, true, true, false, false, false, false, false, false, false, false, false] rfl rfl (any_of HT_.out (by kernel_rfl)) (fun _ _ _ h => h) (Or.inl ⟨by rfl, ?_⟩) ?_ ?_
  rotate_left
  · intro w'
    go_simp
    with_reducible rfl
  rotate_left
  · simp only [Act.put, List.setIfInBounds_toArray, List.set_cons_zero, List.set_cons_succ, i64_w, i32_w]
    rfl
  refine pure_ (i := 9) (N := some 44) (v := ?_) (a' := ?_) #[true, true, true, true, true, true, true, true, true, true, false, false, false, false, false, false, false, false] rfl rfl (any_of HT_.out (by kernel_rfl)) (fun _ _ _ h => h) (Or.inl ⟨by rfl, ?_⟩) ?_ ?_
  rotate_left
  · intro w'
    go_simp
    with_reducible rfl
  rotate_left
  · simp only [Act.put, List.setIfInBounds_toArray, List.set_cons_zero, List.set_cons_succ, i64_w, i32_w]
    rfl
  refine take_ (i := 10) (N := some 45) (v := ?_) (a' := ?_) #[true, true, true, true, true, true, true, true, true, true, true, false, false, false, false, false, false, false] rfl rfl (take_ofW HT_.out HW_.out (by kernel_rfl)) (fun _ _ _ h => h) (Or.inl ⟨by rfl, ?_⟩) hHeld ?_ ?_
  rotate_left
  · intro w' s0
    skip
    go_simp
    with_reducible rfl
  rotate_left
  · simp only [Act.put, List.setIfInBounds_toArray, List.set_cons_zero, List.set_cons_succ, i64_w, i32_w]
    rfl
  refine pure_ (i := 11) (N := some 46) (v := ?_) (a' := ?_) #[true, true, true, true, true, true, true, true, true, true, true, true, false, false, false, false, false, false] rfl rfl (any_of HT_.out (by kernel_rfl)) (fun _ _ _ h => h) (Or.inl ⟨by rfl, ?_⟩) ?_ ?_
  rotate_left
  · intro w'
    go_simp
    with_reducible rfl
  rotate_left
  · simp only [Act.put, List.setIfInBounds_toArray, List.set_cons_zero, List.set_cons_succ, i64_w, i32_w]
    rfl
  refine pure_ (i := 12) (N := some 47) (v := ?_) (a' := ?_) #[true, true, true, true, true, true, true, true, true, true, true, true, true, false, false, false, false, false] rfl rfl (any_of HT_.out (by kernel_rfl)) (fun _ _ _ h => h) (Or.inl ⟨by rfl, ?_⟩) ?_ ?_
  rotate_left
  · intro w'
    go_simp
    with_reducible rfl
  rotate_left
  · simp only [Act.put, List.setIfInBounds_toArray, List.set_cons_zero, List.set_cons_succ, i64_w, i32_w]
    rfl
  refine pure_ (i := 13) (N := some 48) (v := ?_) (a' := ?_) #[true, true, true, true, true, true, true, true, true, true, true, true, true, true, false, false, false, false] rfl rfl (any_of HT_.out (by kernel_rfl)) (fun _ _ _ h => h) (Or.inl ⟨by rfl, ?_⟩) ?_ ?_
  rotate_left
  · intro w'
    go_simp
    with_reducible rfl
  rotate_left
  · simp only [Act.put, List.setIfInBounds_toArray, List.set_cons_zero, List.set_cons_succ, i64_w, i32_w]
    rfl
  refine pure_ (i := 14) (N := some 49) (v := ?_) (a' := ?_) #[true, true, true, true, true, true, true, true, true, true, true, true, true, true, true, false, false, false] rfl rfl (any_of HT_.out (by kernel_rfl)) (fun _ _ _ h => h) (Or.inl ⟨by rfl, ?_⟩) ?_ ?_
  rotate_left
  · intro w'
    go_simp
    with_reducible rfl
  rotate_left
  · simp only [Act.put, List.setIfInBounds_toArray, List.set_cons_zero, List.set_cons_succ, i64_w, i32_w]
    rfl
  have hgab : gb ≠ ga := fun e => by
    obtain ⟨inner, ho⟩ := Kd.R_own HV'.out
    obtain ⟨cells, hcc⟩ := own_typed ho ga (by simp [Value.ownBlock])
    exact blk_ne BK'.out hcc (by decide) e
  have hgae : ge ≠ ga := fun e => by
    obtain ⟨inner, ho⟩ := Kd.R_own HV'.out
    obtain ⟨cells, hcc⟩ := own_typed ho ga (by simp [Value.ownBlock])
    exact blk_ne BE'.out hcc (by decide) e
  have hgaw := Kd.R_base HV'.out ga (by simp [Value.ownBlock])
  have HGA := Aside0.mk (And.intro hgab (And.intro hgae hgaw))
  clear hgab hgae hgaw
  refine one_ (i := 15) (N := none) #[true, true, true, true, true, true, true, true, true, true, true, true, true, true, true, true, false, false] rfl rfl (one_of HT_.out (by kernel_rfl)) (by decide) (fun K hK => ?_)
  refine skip_ (w1 := ?_) (by rfl) rfl ?_ ?_
  rotate_left
  · go_simp
    rfl
  have BK2 := blk_far BK'.out (p := ⟨ga, p, none⟩) HGA.out.1 (.bool true)
  have BE2 := blk_far BE'.out (p := ⟨ga, p, none⟩) HGA.out.2.1 (.bool true)
  have HBB := Aside0.mk (And.intro BK2 BE2)
  refine hK.out _ _ ((blk_cell BK2 0).trans rfl) (fun hHeld => ?_)
  clear hK K BK2 BE2
  have hput := Kd.R_put HV'.out (p : Int) true
  rw [Int.toNat_natCast] at hput
  have hV2 := hput.1
  have hlen2 : (on.set p true).length = on.length := List.length_set ..
  rw [← hlen2] at hV2
  have HV2 := Aside0.mk hV2
  have HB2 := Aside0.mk (HB'.out.setCell (p := ⟨ga, p, none⟩) HGA.out.2.2 (.bool true))
  have hd0 := Kd.R_cell false hV2 (q : Int) (by omega) (by omega)
  rw [Int.toNat_natCast] at hd0
  obtain ⟨hd1, hd2⟩ := hd0
  rw [hlen2] at HV2
  clear hc1 hc2 hput hV2 hlen2 HV' HB' BK' BE'
  generalize wx.setCell ⟨ga, p, none⟩ (.bool true) = wy at HBB HV2 HB2 hd1 hd2 hHeld ⊢
  refine pure_ (i := 16) (N := some 50) (v := ?_) (a' := ?_) #[true, true, true, true, true, true, true, true, true, true, true, true, true, true, true, true, true, false] rfl rfl (any_of HT_.out (by kernel_rfl)) (fun _ _ _ h => h) (Or.inl ⟨by rfl, ?_⟩) ?_ ?_
  rotate_left
  · intro w'
    go_simp
    with_reducible rfl
  rotate_left
  · simp only [Act.put, List.setIfInBounds_toArray, List.set_cons_zero, List.set_cons_succ, i64_w, i32_w]
    rfl
  refine one_ (i := 17) (N := none) #[true, true, true, true, true, true, true, true, true, true, true, true, true, true, true, true, true, true] rfl rfl (one_of HT_.out (by kernel_rfl)) (by decide) (fun K hK => ?_)
  refine skip_ (w1 := ?_) (by rfl) rfl ?_ ?_
  rotate_left
  · go_simp
    rfl
  have BK3 := blk_far HBB.out.1 (p := ⟨ga, q, none⟩) HGA.out.1 (.bool true)
  have BE3 := blk_far HBB.out.2 (p := ⟨ga, q, none⟩) HGA.out.2.1 (.bool true)
  refine hK.out _ _ ((blk_cell BK3 0).trans rfl) (fun hHeld => ?_)
  clear hK K
  refine done_ (done_of HT_.out (by kernel_rfl)) ?_
  have hV2 := HV2.out
  rw [← (List.length_set .. : (on.set p true).length = on.length)] at hV2
  have hput := Kd.R_put hV2 (q : Int) true
  clear hV2
  rw [Int.toNat_natCast] at hput
  have HV3 := Aside0.mk hput.1
  have HB3 := Aside0.mk (HB2.out.setCell (p := ⟨ga, q, none⟩) HGA.out.2.2 (.bool true))
  have HBK := Aside0.mk BK3
  have HBE := Aside0.mk BE3
  clear hput HV2 HB2 HBB hd1 hd2 BK3 BE3 hHeld
  generalize wy.setCell ⟨ga, q, none⟩ (.bool true) = wz at HV3 HB3 HBK HBE ⊢
  have hcz0 : wz.cell? ⟨gb, 0, none⟩ = some (.int .i64 n) := (blk_cell HBK.out 0).trans rfl; have hcz1 : wz.cell? ⟨gb, 1, none⟩ = some (.slice A on.length c) := (blk_cell HBK.out 1).trans rfl; have hfz0 := blk_frozen HBK.out 0; have hfz1 := blk_frozen HBK.out 1; have hdz0 : wz.cell? ⟨ge, 0, none⟩ = some (.int .i64 0) := (blk_cell HBE.out 0).trans rfl; have hdz1 : wz.cell? ⟨ge, 1, none⟩ = some (.slice none 0 0) := (blk_cell HBE.out 1).trans rfl; have hgz0 := blk_frozen HBE.out 0; have hgz1 := blk_frozen HBE.out 1
  go_wp2
  have hE1 := blk_put (cs := #[.int .i64 0, .slice none 0 0]) HBE.out 0 (.int .i64 n) (cs' := #[.int .i64 n, .slice none 0 0]) rfl
  refine bodyPost_ret (results_ct rfl _ _ ge 29 #[.int .i64 n, .slice (some ⟨ga, 0, none⟩) on.length ca] (0, 0) _ rfl (blk_put (cs := #[.int .i64 n, .slice none 0 0]) hE1 1 _ rfl) hu29 rfl (by kernel_rfl)) rfl ?_
  have hR3 := Kd.R_set (Kd.R_set HV3.out HBE.out (by decide) 0 (.int .i64 n)) hE1 (by decide) 1 (.slice (some ⟨ga, 0, none⟩) on.length ca)
  refine ⟨_, rfl, ⟨(on.set p true).set q true, Kd.R_lower (by have h := hR3; rw [List.length_set] at h; exact h) (Nat.zero_le _), HPut.out⟩, (HB3.out.setCell (p := ⟨ge, 0, none⟩) HE.out _).setCell (p := ⟨ge, 1, none⟩) HE.out _⟩
theorem RJoin_is (w : World) (v : Value) (n : Nat) (adj : Adj) (a b : Int) (h : RIs w v n adj) :
    Calls Try.prog 13 #[.agg #[.int .i64 n, v], .int .i64 a, .int .i64 b] w fun e w' => ∃ v', e = .returned (.tuple #[.agg #[.int .i64 n, v'], .bool (joinOk n adj a b)]) ∧ RIs w' v' n (jn n adj a b) ∧ Below w.heap.size w w' := by
  cases hj : joinOk n adj a b with
  | false =>
    refine (RJoin_no w v n adj a b h hj).mono ?_
    rintro e w' ⟨v', he, hR, hB⟩
    rw [hj] at he
    exact ⟨v', he, hR, hB⟩
  | true =>
    obtain ⟨x, y, rfl, rfl, hx, hy, hxy, hadj⟩ := joinOk_nat hj
    refine (RJoin_yes w v n adj x y h hx hy hxy hadj).mono ?_
    rintro e w' ⟨v', he, hR, hB⟩
    refine ⟨v', he, ?_, hB⟩
    unfold jn
    rw [hj]
    simpa using hR
end Go.Proofs.Ytfkmngmnnlgjdaa.Gr

/- The chapter's example, walked. -/
namespace Go.Proofs.Ytfkmngmnnlgjdaa.Gr
open Go Go.RowKit Go.Proofs.Ytfkmngmnnlgjdaa.Gf Go.Proofs.Ytfkmngmnnlgjdaa.Pu Go.Proofs.Ytfkmngmnnlgjdaa.Pr Go.Proofs.Ytfkmngmnnlgjdaa.Mw Go.Proofs.YtfkmngmnnlgjdaaW.PrintWords Go.Proofs.YtfkmngmnnlgjdaaW.PrintLast Go.Proofs.YtfkmngmnnlgjdaaW.PrintMore
set_option linter.unusedVariables false
set_option linter.unusedSimpArgs false

def adjH0 : Adj := fun _ _ => false
def adjH1 : Adj := put (fun _ _ => false) 0 1
theorem JoinH0 (w : World) (g : Nat) (v : Value) (h : GIs w g v 4 adjH0) : Calls Try.prog 14 #[.pointer (some ⟨g, 0, none⟩), .int .i64 0, .int .i64 1] w fun e w' => e = .returned (.bool true) ∧ GIs w' g v 4 adjH1 ∧ w.grownBy w' v.ownBlock := by
  refine (Join_any w g 4 v (fun _ _ => false) 0 1 h).mono ?_
  rintro e w' ⟨he, hG, hg⟩
  rw [okH0] at he
  exact ⟨he, hG, hg⟩
theorem JoinH1 (w : World) (g : Nat) (v : Value) (h : GIs w g v 4 adjH1) : Calls Try.prog 14 #[.pointer (some ⟨g, 0, none⟩), .int .i64 1, .int .i64 2] w fun e w' => e = .returned (.bool true) ∧ GIs w' g v 4 adjH ∧ w.grownBy w' v.ownBlock := by
  refine (Join_any w g 4 v (put (fun _ _ => false) 0 1) 1 2 h).mono ?_
  rintro e w' ⟨he, hG, hg⟩
  rw [okH1] at he
  exact ⟨he, hG, hg⟩
theorem JoinH2 (w : World) (g : Nat) (v : Value) (h : GIs w g v 4 adjH) : Calls Try.prog 14 #[.pointer (some ⟨g, 0, none⟩), .int .i64 2, .int .i64 1] w fun e w' => e = .returned (.bool false) ∧ GIs w' g v 4 adjH ∧ w.grownBy w' v.ownBlock := by
  refine (Join_any w g 4 v adjH 2 1 h).mono ?_
  rintro e w' ⟨he, hG, hg⟩
  rw [okH2] at he
  rw [jnH2] at hG
  exact ⟨he, hG, hg⟩
theorem NewH (w : World) : Calls Try.prog 9 #[.int .i64 4] w fun e w' => ∃ b v, e = .returned (.pointer (some ⟨b, 0, none⟩)) ∧ GIs w' b v 4 adjH0 ∧ w.heap.size ≤ b ∧ (∀ k, v.ownBlock = some k → w.heap.size ≤ k) ∧ Below w.heap.size w w' := New_is w 4 (by omega)
theorem HasH1 (w : World) (g : Nat) (v : Value) (h : GIs w g v 4 adjH) : Calls Try.prog 16 #[.pointer (some ⟨g, 0, none⟩), .int .i64 2, .int .i64 1] w fun e w' => e = .returned (.bool true) ∧ Below w.heap.size w w' := by
  refine (Has_is w g v 4 adjH 2 1 h (by omega) (by omega)).mono ?_
  rintro e w' ⟨he, hD⟩
  rw [show hasN 4 adjH 2 1 = true by decide] at he
  exact ⟨he, hD.below⟩
theorem HasH2 (w : World) (g : Nat) (v : Value) (h : GIs w g v 4 adjH) : Calls Try.prog 16 #[.pointer (some ⟨g, 0, none⟩), .int .i64 0, .int .i64 2] w fun e w' => e = .returned (.bool false) ∧ Below w.heap.size w w' := by
  refine (Has_is w g v 4 adjH 0 2 h (by omega) (by omega)).mono ?_
  rintro e w' ⟨he, hD⟩
  rw [show hasN 4 adjH 0 2 = false by decide] at he
  exact ⟨he, hD.below⟩
theorem LenH (w : World) (g : Nat) (v : Value) (h : GIs w g v 4 adjH) : Calls Try.prog 11 #[.pointer (some ⟨g, 0, none⟩)] w fun e w' => e = .returned (.int .i64 4) ∧ w = w' := Len_is w g v 4 adjH h
theorem PartsH (w : World) (g : Nat) (v : Value) (h : GIs w g v 4 adjH) : Calls Try.prog 22 #[.pointer (some ⟨g, 0, none⟩)] w fun e w' => ∃ v', e = .returned v' ∧ Kd.R (Kd.slice 3 (Kd.int .i64)) 38 w' w.heap.size (fun _ => True) v' [[0, 1, 2], [3]] ∧ Below w.heap.size w w' := by
  have := Parts_is w g 4 v adjH h
  rw [partsH] at this
  exact this
theorem ShellH (w : World) (g : Nat) (v : Value) (h : GIs w g v 4 adjH) : Calls Try.prog 26 #[.pointer (some ⟨g, 0, none⟩)] w fun e w' => ∃ v', e = .returned v' ∧ (Kd.int .i64).R 3 w' w.heap.size (fun _ => True) v' [3, 0, 1, 2] ∧ Below w.heap.size w w' := by
  have := Shell_is w g 4 v adjH h
  rw [shellH] at this
  exact this
/-- Two rows of numbers, compared. -/
theorem Ints_is (w : World) (v u : Value) (l m : List Int) {b1 b2 : Nat} {ok1 ok2 : Nat → Prop} (h1 : (Kd.int .i64).R 3 w b1 ok1 v l) (h2 : (Kd.int .i64).R 3 w b2 ok2 u m) :
    Calls Try.prog 18 #[v, u] w fun e w' => e = .returned (.bool (decide (l = m))) ∧ Below w.heap.size w w' := by
  obtain ⟨A, c, rfl, hc, hC⟩ := Kd.R_reads h1
  obtain ⟨B, d, rfl, hd, hD⟩ := Kd.R_reads h2
  obtain ⟨k, hk⟩ := (ints_f l m (Kd.C_max hC)).rounds
  refine (horariumref03_Ints.calls k A c l B d m _ w hC hc hD hd hk).mono ?_
  rintro e w' ⟨he, hD⟩
  exact ⟨he, hD.below⟩
theorem Rows_is (w : World) (v u : Value) (l m : List (List Int)) {b1 b2 : Nat} {ok1 ok2 : Nat → Prop} (h1 : Kd.R (Kd.slice 3 (Kd.int .i64)) 38 w b1 ok1 v l) (h2 : Kd.R (Kd.slice 3 (Kd.int .i64)) 38 w b2 ok2 u m) (hl : l.length ≤ 9223372036854775807) (hin : ∀ j, (l.getD j []).length ≤ 9223372036854775807) :
    Calls Try.prog 24 #[v, u] w fun e w' => e = .returned (.bool (decide (l = m))) ∧ Below w.heap.size w w' := by
  obtain ⟨A, c, rfl, hc, hC⟩ := Kd.R_reads h1
  obtain ⟨B, d, rfl, hd, hD⟩ := Kd.R_reads h2
  obtain ⟨k, hk⟩ := (rows_f l m hl hin).rounds
  refine (horariumref14_Rows.calls k A c l B d m _ w hC hc hD hd hk).mono ?_
  rintro e w' ⟨he, hD⟩
  exact ⟨he, hD.below⟩
end Go.Proofs.Ytfkmngmnnlgjdaa.Gr

/- The chapter's example, walked. -/
namespace Go.Proofs.Ytfkmngmnnlgjdaa.Gr
open Go Go.RowKit Go.Proofs.Ytfkmngmnnlgjdaa.Gf Go.Proofs.Ytfkmngmnnlgjdaa.Pu Go.Proofs.Ytfkmngmnnlgjdaa.Pr Go.Proofs.Ytfkmngmnnlgjdaa.Mw Go.Proofs.YtfkmngmnnlgjdaaW.PrintWords Go.Proofs.YtfkmngmnnlgjdaaW.PrintLast Go.Proofs.YtfkmngmnnlgjdaaW.PrintMore
set_option linter.unusedVariables false
set_option linter.unusedSimpArgs false
theorem lit_R (W : World) (l : List Int) (hl : l.length ≤ 1000) : (Kd.int .i64).R 3 (W.alloc (.cells (l.map (Value.int .i64)).toArray 3)) 0 (fun _ => True) (.slice (some ⟨W.heap.size, 0, none⟩) l.length l.length) l := by
  refine Kd.R_of_own ?_ (fun _ _ => trivial)
  have h2 := World.ownsRow_lit (base := 0) (e := 3) (size := 1) W (l.map (Value.int .i64)).toArray l.length (Nat.zero_le _) (by simp only [maxLen]; omega) (by simp)
  simpa [encs] using h2
theorem lit_rows (W : World) : Kd.R (Kd.slice 3 (Kd.int .i64)) 38 (((W.alloc (.cells #[.int .i64 0, .int .i64 1, .int .i64 2] 3)).alloc (.cells #[.int .i64 3] 3)).alloc (.cells #[.slice (some ⟨W.heap.size, 0, none⟩) 3 3, .slice (some ⟨W.heap.size + 1, 0, none⟩) 1 1] 38)) 0 (fun _ => True) (.slice (some ⟨W.heap.size + 1 + 1, 0, none⟩) 2 2) [[0, 1, 2], [3]] := by
  have h1 : (Kd.int .i64).R 3 (W.alloc (.cells #[.int .i64 0, .int .i64 1, .int .i64 2] 3)) 0 (fun _ => True) (.slice (some ⟨W.heap.size, 0, none⟩) 3 3) [0, 1, 2] := lit_R W [0, 1, 2] (by simp)
  generalize hW1 : W.alloc (.cells #[.int .i64 0, .int .i64 1, .int .i64 2] 3) = W1 at h1 ⊢
  have hs1 : W1.heap.size = W.heap.size + 1 := by rw [← hW1]; exact World.size_alloc _ _
  have h2 : (Kd.int .i64).R 3 (W1.alloc (.cells #[.int .i64 3] 3)) 0 (fun _ => True) (.slice (some ⟨W.heap.size + 1, 0, none⟩) 1 1) [3] := by
    have := lit_R W1 [3] (by simp)
    rw [hs1] at this
    exact this
  have h1' := Kd.R_alloc h1 (.cells #[.int .i64 3] 3)
  generalize hW2 : W1.alloc (.cells #[.int .i64 3] 3) = W2 at h1' h2 ⊢
  have hs2 : W2.heap.size = W.heap.size + 1 + 1 := by rw [← hW2, World.size_alloc, hs1]
  have hown := World.ownsRow_lit (base := 0) (e := 38) (size := 1) W2 #[.slice (some ⟨W.heap.size, 0, none⟩) 3 3, .slice (some ⟨W.heap.size + 1, 0, none⟩) 1 1] 2 (Nat.zero_le _) (by simp only [maxLen]; omega) (by simp)
  rw [hs2] at hown
  refine ⟨fun _ _ => trivial, _, hown, ?_⟩
  refine Reps.one (p := [0, 1, 2]) ⟨_, rfl, ?_⟩ (Reps.one (p := [3]) ⟨_, rfl, ?_⟩ (Reps.none _ _))
  · exact Kd.R_mono (Kd.R_alloc (Kd.R_tight rfl h1') _) (fun k hk => ⟨trivial, fun e => by rw [e] at hk; simp [Value.ownBlock] at hk <;> omega⟩)
  · exact Kd.R_mono (Kd.R_alloc (Kd.R_tight rfl h2) _) (fun k hk => ⟨trivial, fun e => by rw [e] at hk; simp [Value.ownBlock] at hk <;> omega⟩)
set_option maxRecDepth 100000 in
set_option maxHeartbeats 1000000 in
theorem heads_is (w : World) : Calls Try.prog 10 #[] w fun e w' => e = .returned (.bool true) ∧ Below w.heap.size w w' := by
  go_enter Try.func10, Try.ntmps10
  go_wp2_with (first
    | (go_at_call 9; refine (NewH w).mono ?_; rintro e w1 ⟨g, v, rfl, hG, hgb, hvb, hB⟩; have HG := Aside0.mk hG; have HV := Aside0.mk hvb; have HB := Aside0.mk hB; clear hG hvb hB)
    | (go_at_call 14; (with_reducible first | refine (JoinH0 _ g v HG.out).mono ?_ | refine (JoinH1 _ g v HG.out).mono ?_ | refine (JoinH2 _ g v HG.out).mono ?_); rintro e w2 ⟨rfl, hG, hg⟩; have HB2 := Aside0.mk (HB.out.grown hg HB.out.size HV.out); clear HG HB; have HG := Aside0.mk hG; clear hG hg; have HB := HB2; clear HB2)
    | (go_at_call 22; refine (PartsH _ g v HG.out).mono ?_; rintro e w5 ⟨vp, rfl, hR, hB⟩; have HRp := Aside0.mk hR; clear hR; have HB2 := Aside0.mk (below_then HB.out HB.out.size hB); have HG2 := Aside0.mk (HG.out.below hB); clear HG HB; have HG := HG2; have HB := HB2; clear HG2 HB2; clear hB)
    | (go_at_call 24; refine (Rows_is _ _ _ [[0, 1, 2], [3]] [[0, 1, 2], [3]] (Kd.R_alloc (Kd.R_alloc (Kd.R_alloc HRp.out _) _) _) (lit_rows _) (by decide) (by rintro (_ | _ | j) <;> simp)).mono ?_; rintro e w6 ⟨rfl, hB⟩; rw [decide_eq_true (show [[0, 1, 2], [3]] = [[0, 1, 2], [(3 : Int)]] from rfl)]; have hB3 := below_then (below_alloc (below_alloc (below_alloc (Below.refl _ _) _) _) _) (below_size (below_alloc (below_alloc (below_alloc (Below.refl _ _) _) _) _)) hB; clear hB; have hB := hB3; clear hB3; have HB2 := Aside0.mk (below_then HB.out HB.out.size hB); have HG2 := Aside0.mk (HG.out.below hB); clear HG HB; have HG := HG2; have HB := HB2; clear HG2 HB2; clear hB HRp)
    | (go_at_call 26; refine (ShellH _ g v HG.out).mono ?_; rintro e w7 ⟨vs, rfl, hR, hB⟩; have HRs := Aside0.mk hR; clear hR; have HB2 := Aside0.mk (below_then HB.out HB.out.size hB); have HG2 := Aside0.mk (HG.out.below hB); clear HG HB; have HG := HG2; have HB := HB2; clear HG2 HB2; clear hB)
    | (go_at_call 18; refine (Ints_is _ _ _ [3, 0, 1, 2] [3, 0, 1, 2] (Kd.R_alloc HRs.out _) (lit_R _ [3, 0, 1, 2] (by simp))).mono ?_; rintro e w8 ⟨rfl, hB⟩; rw [decide_eq_true (show [3, 0, 1, 2] = [3, 0, 1, (2 : Int)] from rfl)]; have hB3 := below_then (below_alloc (Below.refl _ _) _) (below_size (below_alloc (Below.refl _ _) _)) hB; clear hB; have hB := hB3; clear hB3; have HB2 := Aside0.mk (below_then HB.out HB.out.size hB); have HG2 := Aside0.mk (HG.out.below hB); clear HG HB; have HG := HG2; have HB := HB2; clear HG2 HB2; clear hB HRs)
    | (go_at_call 16; (with_reducible first | refine (HasH1 _ g v HG.out).mono ?_ | refine (HasH2 _ g v HG.out).mono ?_); rintro e w9 ⟨rfl, hB⟩; have HB2 := Aside0.mk (below_then HB.out HB.out.size hB); have HG2 := Aside0.mk (HG.out.below hB); clear HG HB; have HG := HG2; have HB := HB2; clear HG2 HB2; clear hB)
    | (go_at_call 11; refine (LenH _ g v HG.out).mono ?_; rintro e w10 ⟨rfl, rfl⟩))
  go_ret
  exact ⟨rfl, HB.out⟩
end Go.Proofs.Ytfkmngmnnlgjdaa.Gr

/- Parts and Shell of no graph; a graph that nobody made. -/
namespace Go.Proofs.Ytfkmngmnnlgjdaa.Gr
open Go Go.RowKit Go.Proofs.Ytfkmngmnnlgjdaa.Gf Go.Proofs.Ytfkmngmnnlgjdaa.Pu Go.Proofs.Ytfkmngmnnlgjdaa.Pr Go.Proofs.Ytfkmngmnnlgjdaa.Mw Go.Proofs.YtfkmngmnnlgjdaaW.PrintWords Go.Proofs.YtfkmngmnnlgjdaaW.PrintLast Go.Proofs.YtfkmngmnnlgjdaaW.PrintMore
set_option linter.unusedVariables false
set_option linter.unusedSimpArgs false
theorem Shell_nil (w : World) : Calls Try.prog 26 #[.pointer none] w fun e w' => e = .returned (.slice none 0 0) ∧ Below w.heap.size w w' := by
  have hmm := @run_makeMap Try.prog
  go_enter Try.func26, Try.ntmps26
  go_wp2_with (go_at_call 11; refine (Len_nil _).mono ?_; rintro e w' ⟨rfl, rfl⟩)
  go_loopw [17] (fun v17 wr => v17 = .int .i64 0 ∧ Aside0 (MIs MII wr w.heap.size 0 (fun _ => none)) ∧ Aside0 (Below w.heap.size w wr)) (fun _ _ => 0)
  case atStart => exact ⟨rfl, ⟨MIs.made MII w⟩, ⟨below_alloc (Below.refl _ _) _⟩⟩
  case round =>
    clear hmm
    obtain ⟨rfl, HM, HB⟩ := hrel
    go_wp2
    go_loopw [5] (fun v5 wr => v5 = .slice none 0 0 ∧ Aside0 (MIs MII wr w.heap.size 0 (fun _ => none)) ∧ Aside0 (Below w.heap.size w wr)) (fun _ _ => 0)
    case atStart => exact ⟨rfl, HM, HB⟩
    case round =>
      clear HM HB
      obtain ⟨rfl, HM, HB⟩ := hrel
      go_wp2_with (first
        | ((with_reducible refine gate_builtin (b := .len) (xs := #[.tmp 27]) rfl ?_); refine wl_len HM.out rfl _ rfl rfl ?_))
      go_ret
      exact ⟨rfl, HB.out⟩
theorem Parts_nil (w : World) : Calls Try.prog 22 #[.pointer none] w fun e w' => e = .returned (.slice none 0 0) ∧ Below w.heap.size w w' := by
  have hmm := @run_makeMap Try.prog
  go_enter Try.func22, Try.ntmps22
  go_wp2_with (go_at_call 11; refine (Len_nil _).mono ?_; rintro e w' ⟨rfl, rfl⟩)
  go_loopw [15] (fun v15 wr => v15 = .int .i64 0 ∧ Aside0 (Below w.heap.size w wr)) (fun _ _ => 0)
  case atStart => exact ⟨rfl, ⟨below_alloc (Below.refl _ _) _⟩⟩
  case round =>
    clear hmm
    obtain ⟨rfl, HB⟩ := hrel
    go_wp2_with (go_at_call 11; refine (Len_nil _).mono ?_; rintro e w' ⟨rfl, rfl⟩)
    go_loopw [5, 23] (fun v5 v23 wr => v23 = .int .i64 0 ∧ v5 = .slice none 0 0 ∧ Aside0 (Below w.heap.size w wr)) (fun _ _ _ => 0)
    case atStart => exact ⟨rfl, rfl, HB⟩
    case round =>
      clear HB
      obtain ⟨rfl, rfl, HB⟩ := hrel
      go_wp2
      go_ret
      exact ⟨rfl, HB.out⟩
def no : Adj := fun _ _ => false
theorem sane_no : Sane 0 no := sane_none 0
theorem GIs.empty {w : World} {b : Nat} (h : w.heap[b]? = some (.cells #[.slice none 0 0] 57 (0, 0))) : GIs w b (.slice none 0 0) 0 no :=
  ⟨h, [], Kd.R_nil _ _ _ _ _, rfl, by omega, sane_no, fun a ha => by omega⟩
theorem parts0 : parts 0 no = [] := rfl
theorem shell0 : shell 0 no = [] := rfl
theorem R_empty {α : Type} {d : Kd α} {w : World} {e base : Nat} {ok : Nat → Prop} {v : Value} (hR : d.R e w base ok v []) : ∃ A c, v = .slice A 0 c := Kd.R_slice hR
theorem Parts0 (w : World) (g : Nat) (v : Value) (h : GIs w g v 0 no) : Calls Try.prog 22 #[.pointer (some ⟨g, 0, none⟩)] w fun e w' => ∃ A c, e = .returned (.slice A 0 c) ∧ Below w.heap.size w w' := by
  refine (Parts_is w g 0 v no h).mono ?_
  rintro e w' ⟨v', rfl, hR, hB⟩
  rw [parts0] at hR
  obtain ⟨A, c, rfl⟩ := R_empty hR
  exact ⟨A, c, rfl, hB⟩
theorem Shell0 (w : World) (g : Nat) (v : Value) (h : GIs w g v 0 no) : Calls Try.prog 26 #[.pointer (some ⟨g, 0, none⟩)] w fun e w' => ∃ A c, e = .returned (.slice A 0 c) ∧ Below w.heap.size w w' := by
  refine (Shell_is w g 0 v no h).mono ?_
  rintro e w' ⟨v', rfl, hR, hB⟩
  rw [shell0] at hR
  obtain ⟨A, c, rfl⟩ := R_empty (d := Kd.int .i64) hR
  exact ⟨A, c, rfl, hB⟩
theorem Near0 (w : World) (g : Nat) (v : Value) (a : Int) (h : GIs w g v 0 no) : Calls Try.prog 19 #[.pointer (some ⟨g, 0, none⟩), .int .i64 a] w fun e w' => ∃ A c, e = .returned (.slice A 0 c) ∧ Below w.heap.size w w' := by
  refine (Near_is w g v 0 no a h).mono ?_
  rintro e w' ⟨v', rfl, hR, hB⟩
  have : nearI 0 no a = [] := by
    unfold nearI
    by_cases h : isN 0 a = true
    · rw [if_pos h]; rfl
    · rw [if_neg h]
  rw [this] at hR
  obtain ⟨A, c, rfl⟩ := R_empty (d := Kd.int .i64) hR
  exact ⟨A, c, rfl, hB⟩
theorem isN0 (a : Int) : isN 0 a = false := by
  unfold isN
  by_cases h : 0 ≤ a
  · simp [h]
  · simp [h]
theorem Has0 (w : World) (g : Nat) (v : Value) (a b : Int) (h : GIs w g v 0 no) (hb0 : -9223372036854775808 ≤ b) (hb1 : b ≤ 9223372036854775807) : Calls Try.prog 16 #[.pointer (some ⟨g, 0, none⟩), .int .i64 a, .int .i64 b] w fun e w' => e = .returned (.bool false) ∧ Below w.heap.size w w' := by
  refine (Has_is w g v 0 no a b h hb0 hb1).mono ?_
  rintro e w' ⟨he, hD⟩
  rw [show hasN 0 no a b = false by unfold hasN; rw [isN0]; rfl] at he
  exact ⟨he, hD.below⟩
theorem Join0 (w : World) (g : Nat) (v : Value) (a b : Int) (h : GIs w g v 0 no) : Calls Try.prog 14 #[.pointer (some ⟨g, 0, none⟩), .int .i64 a, .int .i64 b] w fun e w' => e = .returned (.bool false) ∧ Below w.heap.size w w' := by
  have hj : joinOk 0 no a b = false := by unfold joinOk; rw [isN0]; rfl
  refine (Join_no w g 0 v no a b h hj).mono ?_
  rintro e w' ⟨he, hD⟩
  exact ⟨he, hD.below⟩
theorem Len0 (w : World) (g : Nat) (v : Value) (h : GIs w g v 0 no) : Calls Try.prog 11 #[.pointer (some ⟨g, 0, none⟩)] w fun e w' => e = .returned (.int .i64 0) ∧ w = w' := Len_is w g v 0 no h
end Go.Proofs.Ytfkmngmnnlgjdaa.Gr
