/- The iterator of package bits (All): it hands on, rising, just the numbers of the set as it was when All was called. -/
import Derived.Test.YtfkmngmnnlgjdaaPuWord
import Derived.Test.YtfkmngmnnlgjdaaGrBits
import Derived.RangeFuncBox
import Derived.RangeFuncLeaves
import Derived.Shelf.Abstract
import Derived.WalkKit
import Derived.OwnWalkIn
import Derived.TacticsInMore
import Derived.LoopNIn
import Derived.LoopIn
import Derived.Maps.AppendAt
import Derived.Lib.Hide
import Derived.Outline
namespace Go.Proofs.Ytfkmngmnnlgjdaa.Gr
open Go Go.RowKit Go.Shelf Go.Proofs.Ytfkmngmnnlgjdaa.Gf Go.Proofs.Ytfkmngmnnlgjdaa.Pu Go.Proofs.YtfkmngmnnlgjdaaW.PrintWords Go.Proofs.YtfkmngmnnlgjdaaW.PrintLast Go.Proofs.YtfkmngmnnlgjdaaW.PrintMore
set_option linter.unusedVariables false
attribute [local go_sem] Oper.semAt_some

/-- The words of a row. -/
def wd (l : List Int) (i : Nat) : Nat := (l.getD i 0).toNat
theorem wd_lt {l : List Int} (h : Wd l) (i : Nat) : wd l i < 18446744073709551616 := by have := h.getD i; unfold wd; omega
theorem wd_bit (l : List Int) (i q : Nat) (hq : q < 64) : (wd l i).testBit q = bitAt l (64 * i + q) := by
  unfold wd bitAt
  rw [show (64 * i + q) / 64 = i by omega, show (64 * i + q) % 64 = q by omega]
/-- What is left of word i when the numbers below s are done. -/
def LeftW (l : List Int) (i s x : Nat) : Prop := x < 18446744073709551616 ∧ s ≤ 64 ∧ ∀ q, x.testBit q = (decide (s ≤ q) && (wd l i).testBit q)
theorem LeftW.start {l : List Int} (h : Wd l) (i : Nat) : LeftW l i 0 (wd l i) := ⟨wd_lt h i, by omega, fun q => by simp⟩
theorem LeftW.over {l : List Int} {i s : Nat} (h : LeftW l i s 0) : elems l (64 * i + s) = elems l (64 * (i + 1)) := by
  obtain ⟨d, hd⟩ : ∃ d, 64 = s + d := ⟨64 - s, by have := h.2.1; omega⟩
  rw [show 64 * (i + 1) = (64 * i + s) + d by omega]
  refine (elems_skip d (fun q h1 h2 => ?_)).symm
  have := h.2.2 (q - 64 * i)
  rw [Nat.zero_testBit, wd_bit l i _ (by omega)] at this
  rw [show 64 * i + (q - 64 * i) = q by omega] at this
  simpa [show s ≤ q - 64 * i by omega] using this.symm
theorem LeftW.next {l : List Int} {i s x t : Nat} (h : LeftW l i s x) (ht : Low x t) : elems l (64 * i + (t + 1)) = elems l (64 * i + s) ++ [((64 * i + t : Nat) : Int)] ∧ s ≤ t ∧ t < 64 ∧
    ∃ y : Nat, Go.bits .xor .u64 (x : Int) ((2 ^ t : Nat) : Int) = (y : Int) ∧ y < x ∧ LeftW l i (t + 1) y := by
  have h64 : x < 2 ^ 64 := by simpa using h.1
  have htl := ht.lt h64
  have hself := ht.self
  rw [h.2.2] at hself
  simp only [Bool.and_eq_true, decide_eq_true_eq] at hself
  obtain ⟨y, e, hy, hyx, hb⟩ := ht.xor h.1
  refine ⟨?_, hself.1, htl, y, e, hyx, hy, by omega, fun q => ?_⟩
  · rw [show 64 * i + (t + 1) = (64 * i + t) + 1 by omega, elems_hit (by rw [← wd_bit l i t htl]; exact hself.2)]
    congr 1
    obtain ⟨d, hd⟩ : ∃ d, t = s + d := ⟨t - s, by omega⟩
    rw [show 64 * i + t = (64 * i + s) + d by omega]
    refine elems_skip d (fun q h1 h2 => ?_)
    have h3 := ht.below (j := q - 64 * i) (by omega)
    rw [h.2.2, wd_bit l i _ (by omega), show 64 * i + (q - 64 * i) = q by omega] at h3
    simpa [show s ≤ q - 64 * i by omega] using h3
  · rw [hb, h.2.2]
    by_cases h1 : t < q
    · simp [h1, show s ≤ q by omega, show t + 1 ≤ q by omega]
    · simp [h1, show ¬ t + 1 ≤ q by omega]

set_option maxRecDepth 100000 in
set_option maxHeartbeats 4000000 in
theorem all1_in (F : Fence) (n : Nat) (h6 : F.fn 43) (hro : F.round = none) (hn : 1 ≤ n) (lp Bn : Nat) (Kp : World → World → Prop) (hKr : ∀ W, Kp W W) (hKt : ∀ {X Y Z : World}, Kp X Y → Kp Y Z → Kp X Z) (A : Option Addr) (c : Nat) (l : List Int) (hW : Wd l) (hl : l.length ≤ 64) (hc : l.length ≤ c) (J Jx : List Int → World → Prop)
    (hY : ∀ pre x W, J pre W → pre.length < (elems l (64 * l.length)).length → YieldAt F (n - 1) Try.prog lp #[.int .i64 x] W fun e W' =>
      (e = .returned (.bool true) ∧ J (pre ++ [x]) W' ∧ Kp W W') ∨ (e = .returned (.bool false) ∧ Jx (pre ++ [x]) W'))
    (W : World) (hBn : W.cell? ⟨Bn, 0, none⟩ = some (.slice A l.length c)) (hL : ∀ W', Kp W W' → (Kd.int .u64).C W' A l.length l) (h0 : J [] W) :
    CallsIn F n Try.prog 43 #[.func (.yield lp) #[] #[], .pointer (some ⟨Bn, 0, none⟩)] W fun e W' => (∃ v, e = .returned v) ∧
      ((∃ ys, ys = elems l (64 * l.length) ∧ J ys W') ∨ (∃ pre, pre <+: elems l (64 * l.length) ∧ Jx pre W')) := by
  refine callsIn_of_wp Try.func43 rfl h6 ?_ hro
  simp only [Try.ntmps43, List.size_toArray, List.length_cons, List.length_nil, Nat.reduceAdd, Nat.reduceSub, Array.replicate_succ, Array.replicate_zero, List.push_toArray, List.append_toArray, List.nil_append, List.cons_append]
  gi_wp2
  gi_loopw [9] (fun v9 wr => ∃ i : Nat, i ≤ l.length ∧ v9 = .int .i64 i ∧ J (elems l (64 * i)) wr ∧ Kp W wr) (fun v9 _ => l.length - (intOf v9).toNat)
  case atStart => exact ⟨0, Nat.zero_le _, rfl, h0, hKr _⟩
  case round =>
    obtain ⟨i, hi, rfl, hJ, hB⟩ := hrel
    by_cases hlt : i < l.length
    · obtain ⟨ad, e, hx⟩ := Kd.at_int (hL wr hB) (i : Int) (by omega) (by omega)
      cases e
      rw [Int.toNat_natCast] at hx
      have hwd : rd l (i : Int) = ((wd l i : Nat) : Int) := by unfold wd; rw [rd_nat]; have := (hW.getD i).1; omega
      rw [hwd] at hx
      gi_wp2
      gi_loopw [4] (fun v4 wr => ∃ s x : Nat, v4 = .int .u64 (x : Int) ∧ LeftW l i s x ∧ J (elems l (64 * i + s)) wr ∧ Kp W wr) (fun v4 _ => (intOf v4).toNat)
      case atStart => exact ⟨0, wd l i, rfl, LeftW.start hW i, hJ, hB⟩
      case round =>
        clear hJ hB hx hwd
        rename_i wr0 _ _ _ _ _
        obtain ⟨s, x, rfl, hX, hJ, hB⟩ := hrel
        by_cases hx0 : x = 0
        · subst hx0
          gi_wp2
          exact ⟨⟨i + 1, by omega, by go_num, by rw [← hX.over]; exact hJ, hB⟩, by simp [intOf]; omega⟩
        · obtain ⟨t, m, hm⟩ := low_exists x hx0
          have ht : Low x t := ⟨m, hm⟩
          clear hm
          obtain ⟨hel, hst, ht64, y, hxor, hyx, hY'⟩ := hX.next ht
          have hand := ht.and_neg hX.1
          obtain ⟨P, hP⟩ : ∃ P : Int, P = ((2 ^ t : Nat) : Int) := ⟨_, rfl⟩
          rw [← hP] at hxor hand
          have HP := Lib.hid hP
          clear hP
          have HXOR := Lib.hid hxor
          clear hxor
          have HEL := Lib.hid hel
          clear hel
          have hx1 : ((x : Int) != 0) = true := by rw [bne_iff_ne]; omega
          gi_wp2
          gi_loop [6] (fun v6 => ∃ k : Nat, k ≤ t ∧ v6 = .int .i64 (k : Int)) (fun v6 => t - (intOf v6).toNat)
          case atStart => exact ⟨0, Nat.zero_le _, rfl⟩
          case round =>
            obtain ⟨k, hk, rfl⟩ := hrel
            by_cases hkt : k < t
            · have hsh := shift_go hkt HP.out
              gi_wp2
              exact ⟨⟨k + 1, by omega, by go_num⟩, by simp [intOf]; omega⟩
            · obtain rfl : k = t := by omega
              have hsh := shift_end HP.out
              have hpre : elems l (64 * i + (k + 1)) <+: elems l (64 * l.length) := elems_prefix l (by omega)
              have hin : (elems l (64 * i + s)).length < (elems l (64 * l.length)).length := by
                have := hpre.length_le
                rw [HEL.out, List.length_append, List.length_singleton] at this
                omega
              rw [HEL.out, show ((64 * i + k : Nat) : Int) = 64 * (i : Int) + (k : Int) by omega] at hpre
              have hjn : ∀ W', J (elems l (64 * i + s) ++ [64 * (i : Int) + (k : Int)]) W' → J (elems l (64 * i + (k + 1))) W' := by
                intro W' hj
                rw [HEL.out, show ((64 * i + k : Nat) : Int) = 64 * (i : Int) + (k : Int) by omega]
                exact hj
              obtain ⟨fn, tmps, assign, body, hy, hR⟩ := hY (elems l (64 * i + s)) (64 * (i : Int) + (k : Int)) wr hJ hin
              gi_wp2
              refine hR.mono ?_
              rintro e W3 (⟨rfl, hJ3, hk3⟩ | ⟨rfl, hJx3⟩)
              · gi_wp2
                exact ⟨⟨k + 1, y, by rw [HXOR.out], hY', hjn _ hJ3, hKt hB hk3⟩, by rw [HXOR.out]; simp [intOf]; omega⟩
              · gi_wp2
                refine bodyPost_ret (results_none rfl _ _ _) rfl ?_
                exact ⟨⟨_, rfl⟩, .inr ⟨_, hpre, hJx3⟩⟩
    · gi_wp2
      go_end0
      obtain rfl : i = l.length := by omega
      exact ⟨⟨_, rfl⟩, .inl ⟨_, rfl, hJ⟩⟩
end Go.Proofs.Ytfkmngmnnlgjdaa.Gr
