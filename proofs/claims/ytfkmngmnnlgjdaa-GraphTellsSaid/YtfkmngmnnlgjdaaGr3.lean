/- Near and New of a graph. -/
import Derived.Test.YtfkmngmnnlgjdaaGr2
import Derived.Test.YtfkmngmnnlgjdaaGrList
namespace Go.Proofs.Ytfkmngmnnlgjdaa.Gr
open Go Go.RowKit Go.Proofs.Ytfkmngmnnlgjdaa.Gf Go.Proofs.Ytfkmngmnnlgjdaa.Pu Go.Proofs.YtfkmngmnnlgjdaaW.PrintWords Go.Proofs.YtfkmngmnnlgjdaaW.PrintLast Go.Proofs.YtfkmngmnnlgjdaaW.PrintMore
set_option linter.unusedVariables false

/-- The neighbours that Near tells. -/
def nearI (n : Nat) (adj : Adj) (a : Int) : List Int := if isN n a then nats (near n adj a.toNat) else []
theorem R_ints {w : World} {base : Nat} {v : Value} {xs : List Int} (h : w.ownsRow base 3 1 v xs.length (xs.map (Value.int .i64))) : (Kd.int .i64).R 3 w base (fun _ => True) v xs := Kd.R_of_own h (fun _ _ => trivial)
set_option maxHeartbeats 400000 in
theorem Near_is (w : World) (g : Nat) (v : Value) (n : Nat) (adj : Adj) (a : Int) (h : GIs w g v n adj) :
    Calls Try.prog 19 #[.pointer (some ⟨g, 0, none⟩), .int .i64 a] w fun e w' => ∃ v', e = .returned v' ∧ (Kd.int .i64).R 3 w' w.heap.size (fun _ => True) v' (nearI n adj a) ∧ Below w.heap.size w w' := by
  by_cases hn : isN n a = true
  · have hn2 := hn
    simp only [isN, Bool.and_eq_true, decide_eq_true_eq] at hn2
    obtain ⟨ha0, ha1⟩ := hn2
    obtain ⟨m, rfl⟩ := Int.eq_ofNat_of_zero_le ha0
    have ha2 : m < n := by omega
    have hS := h.sane
    obtain ⟨A, c, rfl, hc, hcell⟩ := h.head
    obtain ⟨ad, B, cB, l, rfl, hrow, hlc, hC, hW, hl64, hbit⟩ := h.row ha2
    have hr : nearI n adj (m : Int) = nats (near n adj m) := by unfold nearI; rw [if_pos hn, Int.toNat_natCast]
    have HR := Lib.hid hr
    have HN := Lib.hid hn
    have HC := Lib.hid hC
    have H := Lib.hid h
    have HBit := Lib.hid hbit
    clear hr hn hC h hbit
    go_enter Try.func19, Try.ntmps19
    go_wp2_with (first | (go_at_call 32; refine (is_is w g _ n adj _ H.out).mono ?_; rintro e w' ⟨rfl, rfl⟩; rw [HN.out]) | (go_at_call 35; refine (List_own w B cB l hW hl64 hlc HC.out).mono ?_; rintro e w1 ⟨v1, l', rfl, hW', hb', ho, hB⟩))
    go_ret
    refine ⟨_, rfl, ?_, hB⟩
    have he : elems l' (64 * l'.length) = nearI n adj (m : Int) := by
      rw [HR.out]
      exact elems_all (fun i => by rw [hb', HBit.out]) (fun i hi => hS.lt2 hi)
    rw [← he]
    exact R_ints ho
  · have hn' : isN n a = false := by simpa using hn
    have hr : nearI n adj a = [] := by unfold nearI; rw [if_neg hn]
    have HR := Lib.hid hr
    have HN := Lib.hid hn'
    have H := Lib.hid h
    clear hr hn hn' h
    go_enter Try.func19, Try.ntmps19
    go_wp2_with (first | (go_at_call 32; refine (is_is w g _ n adj _ H.out).mono ?_; rintro e w' ⟨rfl, rfl⟩; rw [HN.out]))
    go_ret
    exact ⟨_, rfl, by rw [HR.out]; exact Kd.R_nil _ _ _ _ _, Below.refl _ _⟩
set_option maxHeartbeats 400000 in
theorem Near_nil (w : World) (a : Int) : Calls Try.prog 19 #[.pointer none, .int .i64 a] w fun e w' => e = .returned (.slice none 0 0) ∧ w = w' := by
  go_enter Try.func19, Try.ntmps19
  go_wp2_with (first | (go_at_call 32; refine (is_nil w a).mono ?_; rintro e w' ⟨rfl, rfl⟩))
  go_ret
  exact ⟨rfl, rfl⟩

theorem infoR : (Try.prog.info? 61).map (fun i => (i.zero, i.size, i.bytes)) = some (some (.slice none 0 0), 1, 24) := by kernel_rfl
set_option maxHeartbeats 400000 in
theorem New_none (w : World) (n : Int) (h : n < 0 ∨ 400 < n) : Calls Try.prog 9 #[.int .i64 n] w fun e w' => e = .returned (.pointer none) ∧ w = w' := by
  by_cases h0 : n < 0
  · clear h
    go_enter Try.func9, Try.ntmps9
    go_wp2
    go_ret
    exact ⟨rfl, rfl⟩
  · have h1 : decide (n < 0) = false := decide_eq_false (by omega)
    have h2 : 400 < n := by omega
    clear h
    go_enter Try.func9, Try.ntmps9
    go_wp2
    go_ret
    exact ⟨rfl, rfl⟩
set_option maxHeartbeats 400000 in
theorem New_is (w : World) (n : Nat) (h : n ≤ 400) : Calls Try.prog 9 #[.int .i64 n] w fun e w' => ∃ b v, e = .returned (.pointer (some ⟨b, 0, none⟩)) ∧ GIs w' b v n (fun _ _ => false) ∧ w.heap.size ≤ b ∧ (∀ k, v.ownBlock = some k → w.heap.size ≤ k) ∧ Below w.heap.size w w' := by
  have h1 : decide ((n : Int) < 0) = false := decide_eq_false (by omega)
  have h2 : decide (400 < (n : Int)) = false := decide_eq_false (by omega)
  go_enter Try.func9, Try.ntmps9
  go_wp2_with (first | ((with_reducible refine gate_dst (N := 10) rfl ?_); refine Kd.R_make (Kd.slice 71 (Kd.int .u64)) w.heap.size 61 rfl (N := 10) rfl 55 _ _ rfl (n : Int) rfl rfl Try.underlying55 (.slice none 0 0) 24 infoR rfl (by decide) (by omega) [] (ok := fun _ => True) (okp := fun _ => True) ⟨_, rfl, Kd.R_nil _ _ _ _ _⟩ (fun _ hk => hk) trivial (by omega) (by omega) (Below.refl _ _) (Nat.le_refl _) ?_; intro v1 w1 ho hb hg hnew; obtain ⟨A', c', rfl⟩ := Kd.R_slice ho))
  go_ret
  simp only [Int.toNat_natCast, List.length_replicate] at ho
  refine ⟨w1.heap.size, .slice A' n c', rfl, ⟨Boxed.new w1 57 _, List.replicate n [], Kd.R_lower (Kd.R_below ho (below_alloc (Below.refl _ _) _)) (Nat.zero_le _), by simp, h, sane_none n, fun a ha => ?_⟩, hb.size, fun k hk => ?_, below_alloc hb _⟩
  · have e : (List.replicate n ([] : List Int)).getD a [] = [] := by rw [List.getD_eq_getElem?_getD, List.getElem?_replicate, if_pos ha]; rfl
    rw [e]
    exact ⟨Wd.nil, Nat.zero_le _, fun i => bitAt_ge (by simp)⟩
  · obtain ⟨inner, hown⟩ := Kd.R_own ho
    exact own_base hown k hk
end Go.Proofs.Ytfkmngmnnlgjdaa.Gr
