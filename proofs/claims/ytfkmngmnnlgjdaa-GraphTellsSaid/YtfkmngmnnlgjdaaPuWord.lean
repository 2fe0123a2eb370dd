/- Plain facts on one 64-bit word: its lowest bit, and the word without it. And the numbers of a row of words, rising. -/
import Derived.Test.YtfkmngmnnlgjdaaPuBits
namespace Go.Proofs.Ytfkmngmnnlgjdaa.Pu
open Go.Proofs.YtfkmngmnnlgjdaaW.PrintWords Go.Proofs.YtfkmngmnnlgjdaaW.PrintMore

theorem low_exists (x : Nat) (h : x ≠ 0) : ∃ t m, x = 2 ^ (t + 1) * m + 2 ^ t := by
  induction x using Nat.strongRecOn with
  | _ x ih =>
    rcases Nat.mod_two_eq_zero_or_one x with h0 | h1
    · obtain ⟨t, m, e⟩ := ih (x / 2) (by omega) (by omega)
      refine ⟨t + 1, m, ?_⟩
      have : x = 2 * (x / 2) := by omega
      rw [this, e, Nat.pow_succ 2 (t + 1), Nat.pow_succ 2 t]
      have h3 : 2 ^ t * 2 * 2 * m = 2 * (2 ^ t * 2 * m) := by rw [Nat.mul_right_comm, Nat.mul_comm _ 2]
      rw [h3]
      omega
    · exact ⟨0, x / 2, by omega⟩
/-- Bit t is x's lowest. -/
def Low (x t : Nat) : Prop := ∃ m, x = 2 ^ (t + 1) * m + 2 ^ t
theorem Low.bit {x t : Nat} (h : Low x t) (j : Nat) : x.testBit j = if j < t then false else if j = t then true else x.testBit j := by
  obtain ⟨m, rfl⟩ := h
  rw [Nat.testBit_two_pow_mul_add m (Nat.pow_lt_pow_right (by omega) (by omega)) j]
  by_cases h1 : j < t
  · rw [if_pos h1, if_pos (by omega), Nat.testBit_two_pow]; simp; omega
  · rw [if_neg h1]
    by_cases h2 : j = t
    · subst h2; rw [if_pos rfl, if_pos (by omega), Nat.testBit_two_pow]; simp
    · rw [if_neg h2]
theorem Low.self {x t : Nat} (h : Low x t) : x.testBit t = true := by rw [h.bit]; simp
theorem Low.below {x t : Nat} (h : Low x t) {j : Nat} (hj : j < t) : x.testBit j = false := by rw [h.bit, if_pos hj]
theorem Low.lt {x t : Nat} (h : Low x t) (hx : x < 2 ^ 64) : t < 64 := by
  apply Classical.byContradiction
  intro hn
  have := Nat.testBit_lt_two_pow (Nat.lt_of_lt_of_le hx (Nat.pow_le_pow_right (by omega) (Nat.not_lt.1 hn)))
  rw [h.self] at this
  cases this
theorem Low.pos {x t : Nat} (h : Low x t) : 0 < x := by
  obtain ⟨m, rfl⟩ := h
  have : 0 < 2 ^ t := Nat.pow_pos (by omega)
  omega
/-- x & -x. -/
theorem Low.and_neg {x t : Nat} (h : Low x t) (hx : x < 18446744073709551616) : Go.bits .and .u64 (x : Int) (IntKind.u64.wrap (-(x : Int))) = ((2 ^ t : Nat) : Int) := by
  have hp := h.pos
  have e1 : IntKind.u64.wrap (-(x : Int)) = ((18446744073709551616 - x : Nat) : Int) := by rw [IntKind.wrap_u64]; omega
  rw [e1, u64_and (x : Int) _ (by omega) (by omega) (by omega) (by omega), Int.toNat_natCast, Int.toNat_natCast]
  congr 1
  have h64 : x < 2 ^ 64 := by simpa using hx
  have ht := h.lt h64
  apply Nat.eq_of_testBit_eq
  intro i
  have e2 : 18446744073709551616 - x = 2 ^ 64 - ((x - 1) + 1) := by simp; omega
  rw [Nat.testBit_and, e2, Nat.testBit_two_pow_sub_succ (by omega), Nat.testBit_two_pow]
  obtain ⟨m, rfl⟩ := h
  have e3 : 2 ^ (t + 1) * m + 2 ^ t - 1 = 2 ^ (t + 1) * m + (2 ^ t - 1) := by
    have : 0 < 2 ^ t := Nat.pow_pos (by omega)
    omega
  rw [e3]
  have hl1 : 2 ^ t - 1 < 2 ^ (t + 1) := by
    have : (2 : Nat) ^ t < 2 ^ (t + 1) := Nat.pow_lt_pow_right (by omega) (by omega)
    omega
  rw [Nat.testBit_two_pow_mul_add m (Nat.pow_lt_pow_right (by omega) (by omega)) i, Nat.testBit_two_pow_mul_add m hl1 i, Nat.testBit_two_pow, Nat.testBit_two_pow_sub_one]
  by_cases h1 : i < t + 1
  · rw [if_pos h1, if_pos h1]
    by_cases h2 : t = i
    · subst h2; simp [ht]
    · simp [h2]
  · rw [if_neg h1, if_neg h1]
    have : ¬ t = i := by omega
    simp only [this, decide_false]
    cases m.testBit (i - (t + 1)) <;> simp
theorem u64_xor_nat2 (a b : Nat) (ha : a < 18446744073709551616) (hb : b < 18446744073709551616) : Go.bits .xor .u64 (a : Int) (b : Int) = ((a ^^^ b : Nat) : Int) := u64_xor_nat a b ha hb
/-- The word without its lowest bit. -/
theorem Low.xor {x t : Nat} (h : Low x t) (hx : x < 18446744073709551616) : ∃ y : Nat, Go.bits .xor .u64 (x : Int) ((2 ^ t : Nat) : Int) = (y : Int) ∧ y < 18446744073709551616 ∧ y < x ∧ ∀ q, y.testBit q = (x.testBit q && decide (t < q)) := by
  have h64 : x < 2 ^ 64 := by simpa using hx
  have ht := h.lt h64
  have hp := pow_lt ht
  have hq : ∀ q, (x ^^^ 2 ^ t).testBit q = (x.testBit q && decide (t < q)) := by
    intro q
    rw [Nat.testBit_xor, Nat.testBit_two_pow]
    rcases Nat.lt_trichotomy q t with h1 | h1 | h1
    · rw [h.below h1]; simp; omega
    · subst h1; rw [h.self]; simp
    · have : ¬ t = q := by omega
      simp [this, h1]
  refine ⟨x ^^^ 2 ^ t, u64_xor_nat2 x (2 ^ t) hx hp, ?_, ?_, hq⟩
  · have := Nat.xor_lt_two_pow h64 (by simpa using hp : 2 ^ t < 2 ^ 64)
    simpa using this
  · obtain ⟨m, hm⟩ := id h
    have e : x ^^^ 2 ^ t = 2 ^ (t + 1) * m := Nat.eq_of_testBit_eq fun q => by
      rw [hq, Nat.testBit_two_pow_mul, hm, Nat.testBit_two_pow_mul_add m (Nat.pow_lt_pow_right (by omega) (by omega)) q]
      by_cases h1 : q < t + 1
      · rw [if_pos h1, decide_eq_false (by omega), decide_eq_false (by omega)]; simp
      · rw [if_neg h1, decide_eq_true (by omega), decide_eq_true (by omega)]; simp
    have h2 : 0 < 2 ^ t := Nat.pow_pos (by omega)
    omega
theorem shift_one {t n : Nat} (h : n ≤ t) : ((2 ^ t : Nat) : Int) / ((2 ^ n : Nat) : Int) = ((2 ^ (t - n) : Nat) : Int) := by
  rw [← Int.natCast_ediv, Nat.pow_div h (by omega)]
theorem pow_ne_one {d : Nat} (h : 0 < d) : (2 : Nat) ^ d ≠ 1 := by
  have : (2 : Nat) ^ 1 ≤ 2 ^ d := Nat.pow_le_pow_right (by omega) h
  omega

theorem shift_go {t k : Nat} (h : k < t) {P : Int} (hP : P = ((2 ^ t : Nat) : Int)) : (P / (2 : Int) ^ k != 1) = true := by
  have e : ((2 : Int) ^ k) = ((2 ^ k : Nat) : Int) := by simp
  rw [hP, e, shift_one (by omega), bne_iff_ne]
  have := pow_ne_one (d := t - k) (by omega)
  omega
theorem shift_end {t : Nat} {P : Int} (hP : P = ((2 ^ t : Nat) : Int)) : (P / (2 : Int) ^ t != 1) = false := by
  have e : ((2 : Int) ^ t) = ((2 ^ t : Nat) : Int) := by simp
  rw [hP, e, shift_one (Nat.le_refl _)]
  simp

/-- The numbers below p that are in a row of words, rising. -/
def elems (l : List Int) (p : Nat) : List Int := ((List.range p).filter (bitAt l)).map Int.ofNat
theorem elems_zero (l : List Int) : elems l 0 = [] := rfl
theorem elems_skip {l : List Int} {p : Nat} (d : Nat) (h : ∀ q, p ≤ q → q < p + d → bitAt l q = false) : elems l (p + d) = elems l p := by
  induction d with
  | zero => rfl
  | succ d ih =>
    have h1 := ih (fun q a b => h q a (by omega))
    unfold elems at h1 ⊢
    rw [show p + (d + 1) = (p + d) + 1 from rfl, List.range_succ, List.filter_append, List.map_append, h1]
    simp [h (p + d) (by omega) (by omega)]
theorem elems_hit {l : List Int} {p : Nat} (h : bitAt l p = true) : elems l (p + 1) = elems l p ++ [(p : Int)] := by
  unfold elems
  rw [List.range_succ, List.filter_append, List.map_append]
  simp [h]
theorem elems_length (l : List Int) (p : Nat) : (elems l p).length ≤ p := by
  unfold elems
  rw [List.length_map]
  exact Nat.le_trans (List.length_filter_le _ _) (by rw [List.length_range]; exact Nat.le_refl _)
theorem elems_prefix (l : List Int) {p q : Nat} (h : p ≤ q) : elems l p <+: elems l q := by
  obtain ⟨d, rfl⟩ : ∃ d, q = p + d := ⟨q - p, by omega⟩
  clear h
  induction d with
  | zero => exact List.prefix_refl _
  | succ d ih =>
    refine ih.trans ?_
    unfold elems
    rw [show p + (d + 1) = (p + d) + 1 from rfl, List.range_succ, List.filter_append, List.map_append]
    exact List.prefix_append _ _
/-- Whatever the row's length: a set below n. -/
theorem elems_all {l : List Int} {n : Nat} {I : Nat → Bool} (h : ∀ i, bitAt l i = I i) (hn : ∀ i, I i = true → i < n) : elems l (64 * l.length) = ((List.range n).filter I).map Int.ofNat := by
  have e : (bitAt l) = I := funext h
  unfold elems
  congr 1
  rw [e]
  have key : ∀ p, (∀ i, I i = true → i < p) → ∀ d, (List.range (p + d)).filter I = (List.range p).filter I := by
    intro p hp d
    induction d with
    | zero => rfl
    | succ d ih =>
      rw [show p + (d + 1) = (p + d) + 1 from rfl, List.range_succ, List.filter_append, ih]
      have : I (p + d) = false := by
        cases hI : I (p + d) with
        | false => rfl
        | true => have := hp _ hI; omega
      simp [this]
  have hm : ∀ i, I i = true → i < 64 * l.length := by
    intro i hi
    apply Classical.byContradiction
    intro hge
    rw [← h, bitAt_ge (by omega)] at hi
    cases hi
  rcases Nat.le_total n (64 * l.length) with hle | hle
  · obtain ⟨d, hd⟩ : ∃ d, 64 * l.length = n + d := ⟨64 * l.length - n, by omega⟩
    rw [hd]
    exact key n hn d
  · obtain ⟨d, hd⟩ : ∃ d, n = 64 * l.length + d := ⟨n - 64 * l.length, by omega⟩
    rw [hd]
    exact (key _ hm d).symm
end Go.Proofs.Ytfkmngmnnlgjdaa.Pu
