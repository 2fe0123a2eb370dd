/- List of package bits: the numbers of a set, rising, in new memory. -/
import Derived.Test.YtfkmngmnnlgjdaaGrAll
import Derived.Test.YtfkmngmnnlgjdaaGr1
namespace Go.Proofs.Ytfkmngmnnlgjdaa.Gr
open Go Go.RowKit Go.Shelf Go.Proofs.Ytfkmngmnnlgjdaa.Gf Go.Proofs.Ytfkmngmnnlgjdaa.Pu Go.Proofs.YtfkmngmnnlgjdaaW.PrintWords Go.Proofs.YtfkmngmnnlgjdaaW.PrintLast Go.Proofs.YtfkmngmnnlgjdaaW.PrintMore
set_option linter.unusedVariables false
attribute [local go_sem] Oper.semAt_some

set_option maxHeartbeats 400000 in
theorem All_any (w : World) (A : Option Addr) (c : Nat) (l : List Int) (hW : Wd l) (hl : l.length ≤ 64) (hc : l.length ≤ c) (hC : (Kd.int .u64).C w A l.length l) :
    Calls Try.prog 40 #[.slice A l.length c] w fun e w' => ∃ (B : Nat) (A' : Option Addr) (c' : Nat) (l' : List Int), e = .returned (.func (.func 43) #[] #[.pointer (some ⟨B, 0, none⟩)]) ∧
      w'.cell? ⟨B, 0, none⟩ = some (.slice A' l'.length c') ∧ (∃ k0, w.heap.size ≤ k0 ∧ k0 < w'.heap.size ∧ ∀ W', W'.heap[k0]? = w'.heap[k0]? → (Kd.int .u64).C W' A' l'.length l') ∧ Wd l' ∧ l'.length ≤ 64 ∧ l'.length ≤ c' ∧ (∀ i, bitAt l' i = bitAt l i) ∧ B < w'.heap.size ∧ Below w.heap.size w w' := by
  obtain ⟨r, hev, hWr, hlr, hbr⟩ := short_f hW (by omega)
  obtain ⟨k, hk⟩ := hev.rounds
  go_enter Try.func40, Try.ntmps40
  go_wp2_with (go_at_call 41; refine (bits_short.calls k A c l r w hC hc hk).mono ?_; rintro e w1 ⟨v, rfl, hR, hB⟩; obtain ⟨A', c', rfl, hl', hC'⟩ := Kd.R_reads hR)
  go_ret
  refine ⟨w1.heap.size, A', c', r, rfl, (Boxed.new w1 61 _).cell, ?_, hWr, by omega, hl', hbr, by simp, below_alloc hB _⟩
  have hR2 := Kd.R_tight (d := Kd.int .u64) rfl (Kd.R_below hR (below_alloc (Below.refl _ _) (.cells #[.slice A' r.length c'] 61)))
  have fin : ∀ W', (∀ k, some k = (Value.slice A' r.length c').ownBlock → W'.heap[k]? = (w1.alloc (.cells #[.slice A' r.length c'] 61)).heap[k]?) → (Kd.int .u64).C W' A' r.length r := by
    intro W' hW'
    obtain ⟨A2, c2, e2, _, hC2⟩ := Kd.R_reads (Kd.R_move hR2 hW')
    injection e2 with e3
    subst e3
    exact hC2
  cases hk0 : (Value.slice A' r.length c').ownBlock with
  | none => exact ⟨w1.heap.size, hB.size, by simp, fun W' _ => fin W' (fun k hk => by rw [hk0] at hk; cases hk)⟩
  | some k0 =>
    obtain ⟨inner, ho⟩ := Kd.R_own hR
    exact ⟨k0, own_base ho k0 hk0, by have := own_lt ho k0 hk0; simp; omega, fun W' hW' => fin W' (fun k hk => by rw [hk0] at hk; injection hk with hk; subst hk; exact hW')⟩

/-- One block lies as it lay. -/
def At0 (k0 : Nat) (W W' : World) : Prop := W'.heap[k0]? = W.heap[k0]?
theorem all_stops (F : Fence) (n : Nat) (h6 : F.fn 43) (hro : F.round = none) (hn : 1 ≤ n) (B k0 : Nat) (A : Option Addr) (c : Nat) (l : List Int) (hW : Wd l) (hl : l.length ≤ 64) (hc : l.length ≤ c) (w : World) (hB : B < w.heap.size) (hk0 : k0 < w.heap.size)
    (hcell : w.cell? ⟨B, 0, none⟩ = some (.slice A l.length c)) (hL : ∀ W', W'.heap[k0]? = w.heap[k0]? → (Kd.int .u64).C W' A l.length l) :
    SeqStopsK F n Try.prog 43 #[.pointer (some ⟨B, 0, none⟩)] (fun x : Int => #[Value.int .i64 x]) (At0 k0) (fun ys => ys = elems l (64 * l.length)) (fun pre => pre <+: elems l (64 * l.length)) (elems l (64 * l.length)).length w := fun lp J Jx W hW' _ _ hY h0 =>
  all1_in F n h6 hro hn lp B (At0 k0) (fun _ => rfl) (fun {X Y Z} h k => Eq.trans k h) A c l hW hl hc J Jx hY W ((hW'.cell (p := ⟨B, 0, none⟩) hB).trans hcell) (fun W' hb => hL W' (Eq.trans hb (hW'.block k0 hk0))) h0

theorem infoI : (Try.prog.info? 3).map (fun i => (i.zero, i.size, i.bytes)) = some (some (.int .i64 0), 1, 8) := by kernel_rfl
set_option maxRecDepth 100000 in
set_option maxHeartbeats 2000000 in
theorem List_own (w : World) (A : Option Addr) (c : Nat) (l : List Int) (hW : Wd l) (hl : l.length ≤ 64) (hc : l.length ≤ c) (hC : (Kd.int .u64).C w A l.length l) :
    Calls Try.prog 35 #[.slice A l.length c] w fun e W' => ∃ v l', e = .returned v ∧ Wd l' ∧ (∀ i, bitAt l' i = bitAt l i) ∧ W'.ownsRow w.heap.size 3 1 v (elems l' (64 * l'.length)).length ((elems l' (64 * l'.length)).map (Value.int .i64)) ∧ Below w.heap.size w W' := by
  refine (callsIn_wide (n := 9)).1 ?_
  obtain ⟨i0, hi, hz0, hz1, hz2⟩ := info_parts infoI
  refine callsIn_of_wp_marks Try.func35 rfl trivial ?_ rfl
  simp only [Try.ntmps35, List.size_toArray, List.length_cons, List.length_nil, Nat.reduceAdd, Nat.reduceSub, Array.replicate_succ, Array.replicate_zero, List.push_toArray, List.append_toArray, List.nil_append, List.cons_append]
  gi_wp2_with (refine ⟨trivial, ?_⟩; gi_at_call 40; refine (callsIn_wide.2 (All_any _ A c l hW hl hc (Kd.C_below hC (below_alloc (Below.refl _ _) _)))).mono ?_; rintro e w1 ⟨B, A', c', l', rfl, hcell, ⟨k0, hk1, hk2, hC'⟩, hW', hl', hc', hb', hBl, hBel⟩)
  rw [World.size_alloc] at hk1 hBel
  have bO : Boxed w1 w.heap.size 38 (.slice none 0 0) := (hBel.block w.heap.size (by omega)).trans (Boxed.new w 38 (.slice none 0 0))
  have hB0 : Below w.heap.size w w1 := ((Below.refl _ w).alloc (Nat.le_refl _) _).trans (hBel.mono (by omega))
  have hNb : (elems l' (64 * l'.length)).length ≤ 4096 := Nat.le_trans (elems_length _ _) (by omega)
  refine wpIn_rangeFunc_ownG rfl (by omega) (gf := 43) (lb := #[.pointer (some ⟨B, 0, none⟩)]) rfl trivial (enters_of Try.func43 (by kernel_rfl) rfl)
    (all_stops Fence.wide 8 trivial rfl (by omega) B k0 A' c' l' hW' hl' hc' w1 hBl hk2 hcell hC') (fun {X Y Z} h k => Eq.trans k h) (fun W l o o' hl h _ _ => (grownBy_putObj' W l o').block k0 (by have := (Array.getElem?_eq_some_iff.1 h).1; omega) (by simp; omega)) (Below.refl _ _) (fun _ => rfl)
    (fun pre W => (∃ v, Boxed W w.heap.size 38 v ∧ W.ownsRow w1.heap.size 3 1 v pre.length (pre.map (Value.int .i64)) ∧ True) ∧ (Below w.heap.size w W ∧ Below 0 w1 W))
    (fun _ _ _ => False)
    (OwnFrom.and (Own.from (holdsRow_own w1.heap.size w.heap.size 38 3 1 (fun pre : List Int => pre.length) (fun pre => pre.map (Value.int .i64)) (fun _ _ => True)) _) (OwnFrom.and (ownFrom_below (Nat.le_refl _) (by omega)) (ownFrom_below (Nat.zero_le _) (Nat.zero_le _))))
    (fun _ _ _ _ _ hs _ _ => hs)
    ⟨⟨_, bO, World.ownsRow_nil _ _ _ _, trivial⟩, hB0, Below.refl _ _⟩
    (fun x => { tmps := #[.slice A l.length c, undef, .slice none 0 0, .pointer (some ⟨w.heap.size, 0, none⟩), .int .i64 x, .slice A l.length c, .func (.func 43) #[] #[.pointer (some ⟨B, 0, none⟩)], .int .i64 x, undef, undef, undef, undef, undef], defers := [] }) ?assign ?body ?done ?stop
  case assign =>
    intro l x W K hK
    gi_wp2
    exact hK
  case body =>
    rintro lq pre x W ⟨⟨v, hv, hrow, _⟩, hB, hB1⟩ hlt
    have hc := hv.cell
    have hs1 : w1.heap.size ≤ W.heap.size := hB1.size
    gi_wp2_with (gi_at_builtin; refine wpListIn_append_own _ rfl _ _ 38 rfl w1.heap.size 3 i0 (.int .i64 0) 1 8 Try.underlying38 hi hz0 hz1 hz2 rfl (by decide) _ _ _ rfl (hrow.alloc _) ⟨W.heap.size, 0, none⟩ 1 1 [.int .i64 x] rfl rfl (cell_one_new _ _ _) (by simp [Value.oneCell']) (by unfold maxLen; omega) (by omega) (by simp; omega) ?_; intro v' w2 hown' hgrow _; obtain ⟨g', cap', rfl⟩ := ownsRow_succ hown'; obtain ⟨hv1, hv2, hr2, hk2', hb2⟩ := hv.appended (n₀ := w.heap.size) (by decide) (own_weaken hrow hB0.size) hB.size (Nat.le_refl _) (own_weaken hown' hB0.size) hgrow; have hc1 := hv1.cell; have hf1 := hv1.frozen)
    refine ⟨hk2'.from _, ?_, ⟨_, hv2, ?_, trivial⟩, hB.trans hb2, hB1.trans (hb2.mono (Nat.zero_le _))⟩
    · refine (Below.heap_setCell _ _ _ k0 (by show k0 ≠ w.heap.size; omega)).trans ((hgrow.block k0 (by simp; omega) (fun e => ?_)).trans (Below.heap_alloc W _ k0 (by omega)))
      have := own_base hrow k0 e.symm
      omega
    · have h3 := hown'.kept (grownBy_setCell' w2 w.heap.size (.slice (some ⟨g', 0, none⟩) (pre.length + 1) cap')) (.inr (hv1.not_row (by decide) hown').symm)
      simpa using h3
  case done =>
    rintro D ys W hD rfl ⟨⟨v, hv, hrow, _⟩, hB, _⟩ hK
    have hc := hv.cell
    gi_wp2
    refine ⟨by simp, .inl ⟨_, _, rfl, run_takeDeferred hK, ?_⟩⟩
    exact ⟨_, results_tmp rfl _ _ _, v, l', rfl, hW', hb', ownsRow_putObj (own_weaken hrow hB0.size) _ hK rfl, hB.trans (belowK_b (w := w) (Nat.le_refl _) W D _ _ (by have := hB0.size; omega) hK rfl rfl)⟩
  case stop =>
    rintro D c pre W _ _ h _
    exact h.elim
end Go.Proofs.Ytfkmngmnnlgjdaa.Gr
