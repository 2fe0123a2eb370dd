/- Plain facts on sets of small numbers kept as 64-bit words: what a test of a bit, a bit set, an 'or' of words do. No program in sight. -/
import Derived.Laws.BitsAllLaws
import Derived.Test.YtfkmngmnnlgjdaaWMore
namespace Go.Proofs.Ytfkmngmnnlgjdaa.Pu
open Go.Proofs.YtfkmngmnnlgjdaaW.PrintWords Go.Proofs.YtfkmngmnnlgjdaaW.PrintMore

/-- Is bit i of a row of words set? -/
def bitAt (l : List Int) (i : Nat) : Bool := ((l.getD (i / 64) 0).toNat).testBit (i % 64)
/-- The words fit. -/
def Wd (l : List Int) : Prop := ∀ x ∈ l, 0 ≤ x ∧ x < 18446744073709551616

theorem Wd.nil : Wd [] := by intro x hx; cases hx
theorem Wd.getD {l : List Int} (h : Wd l) (j : Nat) : 0 ≤ l.getD j 0 ∧ l.getD j 0 < 18446744073709551616 := by
  rw [List.getD_eq_getElem?_getD]
  cases e : l[j]? with
  | none => simp
  | some x => exact h x (List.mem_of_getElem? e)
theorem Wd.replicate (n : Nat) : Wd (List.replicate n 0) := by
  intro x hx
  rw [List.eq_of_mem_replicate hx]; omega
theorem Wd.set {l : List Int} (h : Wd l) (j : Nat) {x : Int} (h0 : 0 ≤ x) (h1 : x < 18446744073709551616) : Wd (l.set j x) := by
  intro y hy
  rcases List.mem_or_eq_of_mem_set hy with hy | hy
  · exact h y hy
  · subst hy; exact ⟨h0, h1⟩
theorem Wd.take {l : List Int} (h : Wd l) (j : Nat) : Wd (l.take j) := fun x hx => h x (List.mem_of_mem_take hx)
theorem shl_one {k : Int} (h0 : 0 ≤ k) (h1 : k < 64) : shl .u64 1 k = ((2 ^ k.toNat : Nat) : Int) := by
  unfold shl
  rw [Nat.min_eq_left (by simp [IntKind.bits]; omega), IntKind.wrap_u64, Int.one_mul]
  have h2 : (2 : Nat) ^ k.toNat < 18446744073709551616 := by
    have : (2 : Nat) ^ k.toNat < 2 ^ 64 := Nat.pow_lt_pow_right (by omega) (by omega)
    simpa using this
  have h3 : ((2 : Int) ^ k.toNat) = ((2 ^ k.toNat : Nat) : Int) := by simp
  rw [h3]
  generalize (2 : Nat) ^ k.toNat = p at *
  omega
theorem pow_lt {k : Nat} (h1 : k < 64) : (2 : Nat) ^ k < 18446744073709551616 := by
  have : (2 : Nat) ^ k < 2 ^ 64 := Nat.pow_lt_pow_right (by omega) (by omega)
  simpa using this
theorem and_test {x k : Int} (hx0 : 0 ≤ x) (hx1 : x < 18446744073709551616) (h0 : 0 ≤ k) (h1 : k < 64) : ((Go.bits .and .u64 x (shl .u64 1 k)) != 0) = x.toNat.testBit k.toNat := by
  have hp := pow_lt (k := k.toNat) (by omega)
  have hb : ∀ i, (x.toNat &&& 2 ^ k.toNat).testBit i = (x.toNat.testBit i && decide (k.toNat = i)) := fun i => by rw [Nat.testBit_and, Nat.testBit_two_pow]
  rw [shl_one h0 h1]
  generalize (2 : Nat) ^ k.toNat = p at *
  rw [u64_and x _ hx0 hx1 (by omega) (by omega), Int.toNat_natCast]
  cases h : x.toNat.testBit k.toNat with
  | true =>
    have := hb k.toNat
    rw [h, decide_eq_true rfl, Bool.and_true] at this
    have hne : (x.toNat &&& p) ≠ 0 := fun e => by rw [e] at this; simp at this
    rw [bne_iff_ne]; omega
  | false =>
    have hz : (x.toNat &&& p) = 0 := Nat.eq_of_testBit_eq fun i => by
      rw [hb i, Nat.zero_testBit]
      by_cases hk : k.toNat = i
      · subst hk; rw [h]; rfl
      · rw [decide_eq_false hk, Bool.and_false]
    rw [hz]; rfl
theorem or_word {x y : Int} (hx0 : 0 ≤ x) (hx1 : x < 18446744073709551616) (hy0 : 0 ≤ y) (hy1 : y < 18446744073709551616) : 0 ≤ Go.bits .or .u64 x y ∧ Go.bits .or .u64 x y < 18446744073709551616 ∧ ∀ i, (Go.bits .or .u64 x y).toNat.testBit i = (x.toNat.testBit i || y.toNat.testBit i) := by
  rw [u64_or x y hx0 hx1 hy0 hy1]
  have hlt : x.toNat ||| y.toNat < 2 ^ 64 := Nat.or_lt_two_pow (by simp; omega) (by simp; omega)
  refine ⟨by omega, by simp at hlt; omega, fun i => ?_⟩
  rw [Int.toNat_natCast, Nat.testBit_or]
theorem testBit_pow (k i : Nat) : (2 ^ k).testBit i = decide (k = i) := Nat.testBit_two_pow
theorem getD_set (l : List Int) (j i : Nat) (x : Int) (hj : j < l.length) : (l.set j x).getD i 0 = if j = i then x else l.getD i 0 := by
  rw [List.getD_eq_getElem?_getD, List.getElem?_set, List.getD_eq_getElem?_getD]
  by_cases h : j = i
  · subst h; simp [hj]
  · simp [h]
/-- One number put in. -/
theorem bitAt_put {l : List Int} (h : Wd l) {m : Nat} (hm : m / 64 < l.length) {y : Int} (hy : y = Go.bits .or .u64 (l.getD (m / 64) 0) (shl .u64 1 ((m % 64 : Nat) : Int))) :
    Wd (l.set (m / 64) y) ∧ ∀ i, bitAt (l.set (m / 64) y) i = (bitAt l i || decide (i = m)) := by
  have hw := h.getD (m / 64)
  have hs : shl .u64 1 ((m % 64 : Nat) : Int) = ((2 ^ (m % 64) : Nat) : Int) := by rw [shl_one (by omega) (by omega), Int.toNat_natCast]
  have hp := pow_lt (k := m % 64) (by omega)
  have ho := or_word hw.1 hw.2 (y := ((2 ^ (m % 64) : Nat) : Int)) (Int.natCast_nonneg _) (Int.ofNat_lt.2 hp)
  rw [hs] at hy
  rw [← hy] at ho
  refine ⟨h.set _ ho.1 ho.2.1, fun i => ?_⟩
  unfold bitAt
  rw [getD_set _ _ _ _ hm]
  by_cases hi : m / 64 = i / 64
  · rw [if_pos hi, ho.2.2, hi, Int.toNat_natCast, testBit_pow]
    congr 1
    apply decide_eq_decide.2
    omega
  · rw [if_neg hi]
    have : decide (i = m) = false := by apply decide_eq_false; intro e; subst e; exact hi rfl
    rw [this, Bool.or_false]
theorem bitAt_ge {l : List Int} {i : Nat} (h : l.length ≤ i / 64) : bitAt l i = false := by
  unfold bitAt
  rw [List.getD_eq_getElem?_getD, List.getElem?_eq_none h]
  simp
theorem bitAt_replicate (n i : Nat) : bitAt (List.replicate n 0) i = false := by
  unfold bitAt
  rw [List.getD_eq_getElem?_getD, List.getElem?_replicate]
  split <;> simp
/-- Noughts at the end left out. -/
theorem bitAt_take {l : List Int} {n : Nat} (h : ∀ j, n ≤ j → j < l.length → l.getD j 0 = 0) (i : Nat) : bitAt (l.take n) i = bitAt l i := by
  unfold bitAt
  rw [List.getD_eq_getElem?_getD, List.getElem?_take, List.getD_eq_getElem?_getD]
  split
  · rfl
  · rename_i hn
    by_cases hl : i / 64 < l.length
    · have := h (i / 64) (by omega) hl
      rw [List.getD_eq_getElem?_getD] at this
      rw [this]; simp
    · rw [List.getElem?_eq_none (by omega)]
end Go.Proofs.Ytfkmngmnnlgjdaa.Pu
