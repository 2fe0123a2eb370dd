import Derived.Laws.BitsAllLaws
import Derived.Test.YtfkmngmnnlgjdaaWMore
import Derived.Test.YtfkmngmnnlgjdaaGfA
import Derived.Deep.RegionHeld3
import Derived.Deep.DeepCutAuto
import Derived.Outline
import Derived.Lib.Hide
import Derived.BigQuiet
import Derived.Deep.QuietTactic
import Derived.RangeFuncBox
import Derived.RangeFuncLeaves
import Derived.Shelf.Abstract
import Derived.WalkKit
import Derived.OwnWalkIn
import Derived.TacticsInMore
import Derived.LoopNIn
import Derived.LoopIn
import Derived.Maps.AppendAt
import Derived.Maps.OwnSet
import Derived.Maps.OwnOps
/- Plain facts on sets of small numbers kept as 64-bit words: what a test of a bit, a bit set, an 'or' of words do. No program in sight. -/
namespace Go.Proofs.Ytfkmngmnnlgjdaa.Pu
open Go.Proofs.YtfkmngmnnlgjdaaW.PrintWords Go.Proofs.YtfkmngmnnlgjdaaW.PrintMore

/-- Is bit i of a row of words set? -/
def bitAt (l : List Int) (i : Nat) : Bool := ((l.getD (i / 64) 0).toNat).testBit (i % 64)
/-- The words fit. -/
def Wd (l : List Int) : Prop := ∀ x ∈ l, 0 ≤ x ∧ x < 18446744073709551616

theorem Wd.nil : Wd [] := by intro x hx; cases hx
theorem Wd.getD {l : List Int} (h : Wd l) (j : Nat) : 0 ≤ l.getD j 0 ∧ l.getD j 0 < 18446744073709551616 := by
  rw [List.getD_eq_getElem?_getD]
  cases e : l[j]? with
  | none => simp
  | some x => exact h x (List.mem_of_getElem? e)
theorem Wd.replicate (n : Nat) : Wd (List.replicate n 0) := by
  intro x hx
  rw [List.eq_of_mem_replicate hx]; omega
theorem Wd.set {l : List Int} (h : Wd l) (j : Nat) {x : Int} (h0 : 0 ≤ x) (h1 : x < 18446744073709551616) : Wd (l.set j x) := by
  intro y hy
  rcases List.mem_or_eq_of_mem_set hy with hy | hy
  · exact h y hy
  · subst hy; exact ⟨h0, h1⟩
theorem Wd.take {l : List Int} (h : Wd l) (j : Nat) : Wd (l.take j) := fun x hx => h x (List.mem_of_mem_take hx)
theorem shl_one {k : Int} (h0 : 0 ≤ k) (h1 : k < 64) : shl .u64 1 k = ((2 ^ k.toNat : Nat) : Int) := by
  unfold shl
  rw [Nat.min_eq_left (by simp [IntKind.bits]; omega), IntKind.wrap_u64, Int.one_mul]
  have h2 : (2 : Nat) ^ k.toNat < 18446744073709551616 := by
    have : (2 : Nat) ^ k.toNat < 2 ^ 64 := Nat.pow_lt_pow_right (by omega) (by omega)
    simpa using this
  have h3 : ((2 : Int) ^ k.toNat) = ((2 ^ k.toNat : Nat) : Int) := by simp
  rw [h3]
  generalize (2 : Nat) ^ k.toNat = p at *
  omega
theorem pow_lt {k : Nat} (h1 : k < 64) : (2 : Nat) ^ k < 18446744073709551616 := by
  have : (2 : Nat) ^ k < 2 ^ 64 := Nat.pow_lt_pow_right (by omega) (by omega)
  simpa using this
theorem and_test {x k : Int} (hx0 : 0 ≤ x) (hx1 : x < 18446744073709551616) (h0 : 0 ≤ k) (h1 : k < 64) : ((Go.bits .and .u64 x (shl .u64 1 k)) != 0) = x.toNat.testBit k.toNat := by
  have hp := pow_lt (k := k.toNat) (by omega)
  have hb : ∀ i, (x.toNat &&& 2 ^ k.toNat).testBit i = (x.toNat.testBit i && decide (k.toNat = i)) := fun i => by rw [Nat.testBit_and, Nat.testBit_two_pow]
  rw [shl_one h0 h1]
  generalize (2 : Nat) ^ k.toNat = p at *
  rw [u64_and x _ hx0 hx1 (by omega) (by omega), Int.toNat_natCast]
  cases h : x.toNat.testBit k.toNat with
  | true =>
    have := hb k.toNat
    rw [h, decide_eq_true rfl, Bool.and_true] at this
    have hne : (x.toNat &&& p) ≠ 0 := fun e => by rw [e] at this; simp at this
    rw [bne_iff_ne]; omega
  | false =>
    have hz : (x.toNat &&& p) = 0 := Nat.eq_of_testBit_eq fun i => by
      rw [hb i, Nat.zero_testBit]
      by_cases hk : k.toNat = i
      · subst hk; rw [h]; rfl
      · rw [decide_eq_false hk, Bool.and_false]
    rw [hz]; rfl
theorem or_word {x y : Int} (hx0 : 0 ≤ x) (hx1 : x < 18446744073709551616) (hy0 : 0 ≤ y) (hy1 : y < 18446744073709551616) : 0 ≤ Go.bits .or .u64 x y ∧ Go.bits .or .u64 x y < 18446744073709551616 ∧ ∀ i, (Go.bits .or .u64 x y).toNat.testBit i = (x.toNat.testBit i || y.toNat.testBit i) := by
  rw [u64_or x y hx0 hx1 hy0 hy1]
  have hlt : x.toNat ||| y.toNat < 2 ^ 64 := Nat.or_lt_two_pow (by simp; omega) (by simp; omega)
  refine ⟨by omega, by simp at hlt; omega, fun i => ?_⟩
  rw [Int.toNat_natCast, Nat.testBit_or]
theorem testBit_pow (k i : Nat) : (2 ^ k).testBit i = decide (k = i) := Nat.testBit_two_pow
theorem getD_set (l : List Int) (j i : Nat) (x : Int) (hj : j < l.length) : (l.set j x).getD i 0 = if j = i then x else l.getD i 0 := by
  rw [List.getD_eq_getElem?_getD, List.getElem?_set, List.getD_eq_getElem?_getD]
  by_cases h : j = i
  · subst h; simp [hj]
  · simp [h]
/-- One number put in. -/
theorem bitAt_put {l : List Int} (h : Wd l) {m : Nat} (hm : m / 64 < l.length) {y : Int} (hy : y = Go.bits .or .u64 (l.getD (m / 64) 0) (shl .u64 1 ((m % 64 : Nat) : Int))) :
    Wd (l.set (m / 64) y) ∧ ∀ i, bitAt (l.set (m / 64) y) i = (bitAt l i || decide (i = m)) := by
  have hw := h.getD (m / 64)
  have hs : shl .u64 1 ((m % 64 : Nat) : Int) = ((2 ^ (m % 64) : Nat) : Int) := by rw [shl_one (by omega) (by omega), Int.toNat_natCast]
  have hp := pow_lt (k := m % 64) (by omega)
  have ho := or_word hw.1 hw.2 (y := ((2 ^ (m % 64) : Nat) : Int)) (Int.natCast_nonneg _) (Int.ofNat_lt.2 hp)
  rw [hs] at hy
  rw [← hy] at ho
  refine ⟨h.set _ ho.1 ho.2.1, fun i => ?_⟩
  unfold bitAt
  rw [getD_set _ _ _ _ hm]
  by_cases hi : m / 64 = i / 64
  · rw [if_pos hi, ho.2.2, hi, Int.toNat_natCast, testBit_pow]
    congr 1
    apply decide_eq_decide.2
    omega
  · rw [if_neg hi]
    have : decide (i = m) = false := by apply decide_eq_false; intro e; subst e; exact hi rfl
    rw [this, Bool.or_false]
theorem bitAt_ge {l : List Int} {i : Nat} (h : l.length ≤ i / 64) : bitAt l i = false := by
  unfold bitAt
  rw [List.getD_eq_getElem?_getD, List.getElem?_eq_none h]
  simp
theorem bitAt_replicate (n i : Nat) : bitAt (List.replicate n 0) i = false := by
  unfold bitAt
  rw [List.getD_eq_getElem?_getD, List.getElem?_replicate]
  split <;> simp
/-- Noughts at the end left out. -/
theorem bitAt_take {l : List Int} {n : Nat} (h : ∀ j, n ≤ j → j < l.length → l.getD j 0 = 0) (i : Nat) : bitAt (l.take n) i = bitAt l i := by
  unfold bitAt
  rw [List.getD_eq_getElem?_getD, List.getElem?_take, List.getD_eq_getElem?_getD]
  split
  · rfl
  · rename_i hn
    by_cases hl : i / 64 < l.length
    · have := h (i / 64) (by omega) hl
      rw [List.getD_eq_getElem?_getD] at this
      rw [this]; simp
    · rw [List.getElem?_eq_none (by omega)]
end Go.Proofs.Ytfkmngmnnlgjdaa.Pu

/- What the printed functions of package bits come to, in words of bitAt: which numbers are in the set that they answer. -/
namespace Go.Proofs.Ytfkmngmnnlgjdaa.Gr
open Go.RowKit Go.Proofs.Ytfkmngmnnlgjdaa.Gf Go.Proofs.Ytfkmngmnnlgjdaa.Pu Go.Proofs.YtfkmngmnnlgjdaaW.PrintWords Go.Proofs.YtfkmngmnnlgjdaaW.PrintMore

theorem wr {x : Int} (h0 : -9223372036854775808 ≤ x) (h1 : x ≤ 9223372036854775807) : wrap64 x = x := by unfold wrap64; omega
theorem wr1 {n : Nat} (h : n ≤ 9223372036854775806) : wrap64 ((n : Int) + 1) = ((n + 1 : Nat) : Int) := by rw [wr (by omega) (by omega)]; omega
theorem rd_nat (l : List Int) (n : Nat) : rd l (n : Int) = l.getD n 0 := by unfold rd; rw [Int.toNat_natCast]

theorem short_ev (l : List Int) (hl : l.length < 17592186044416) : ∀ n : Nat, n ≤ l.length → (∀ j, n ≤ j → j < l.length → l.getD j 0 = 0) →
    ∃ m, (∀ j, m ≤ j → j < l.length → l.getD j 0 = 0) ∧ Ev (fun k => bits_short.l0 k l (n : Int)) (l.take m) := by
  intro n
  induction n with
  | zero =>
    intro _ hz
    refine ⟨0, hz, Ev.step (f := fun _ => some (l.take 0)) (fun k => ?_) (Ev.now _)⟩
    simp only [bits_short.l0]
    rw [if_neg (by omega)]
    simp only [Option.bind_some]
    rw [if_pos (by omega), if_pos (by omega), if_pos (by simp)]
    simp
  | succ n ih =>
    intro hn hz
    have hw : wrap64 (((n + 1 : Nat) : Int) - 1) = (n : Int) := by rw [wr (by omega) (by omega)]; omega
    by_cases h : l.getD n 0 = 0
    · obtain ⟨m, h1, h2⟩ := ih (by omega) (fun j hj hjl => by
        rcases Nat.eq_or_lt_of_le hj with e | e
        · subst e; exact h
        · exact hz j (by omega) hjl)
      refine ⟨m, h1, Ev.step (fun k => ?_) h2⟩
      simp only [bits_short.l0]
      rw [if_pos (by omega), hw, if_pos (by omega), if_pos (by omega), rd_nat, if_pos h]
    · refine ⟨n + 1, hz, Ev.step (f := fun _ => some (l.take (n + 1))) (fun k => ?_) (Ev.now _)⟩
      simp only [bits_short.l0]
      rw [if_pos (by omega), hw, if_pos (by omega), if_pos (by omega), rd_nat, if_neg h]
      simp only [Option.bind_some]
      rw [if_pos (by omega), if_pos (by omega), Int.toNat_natCast, if_pos (by simp; omega)]
      simp
theorem short_f {l : List Int} (hW : Wd l) (hl : l.length < 17592186044416) : ∃ r, Ev (fun k => bits_short.f k l) r ∧ Wd r ∧ r.length ≤ l.length ∧ ∀ i, bitAt r i = bitAt l i := by
  obtain ⟨m, h1, h2⟩ := short_ev l hl l.length (Nat.le_refl _) (fun j hj hjl => by omega)
  exact ⟨l.take m, h2, hW.take m, by simp; omega, bitAt_take h1⟩

theorem has_f {l : List Int} (hW : Wd l) {a : Int} (h0 : -9223372036854775808 ≤ a) (h1 : a ≤ 9223372036854775807) : bits_Has.f l a = some (decide (0 ≤ a) && bitAt l a.toNat) := by
  unfold bits_Has.f
  by_cases ha : 0 ≤ a
  · obtain ⟨n, rfl⟩ := Int.eq_ofNat_of_zero_le ha
    have e1 : wrap64 ((n : Int).tdiv 64) = ((n / 64 : Nat) : Int) := by
      rw [Int.tdiv_eq_ediv_of_nonneg ha, wr (by omega) (by omega)]; omega
    have e2 : (n : Int).tmod 64 = ((n % 64 : Nat) : Int) := by rw [Int.tmod_eq_emod_of_nonneg ha]; omega
    rw [if_pos ha, e1, e2, Int.toNat_natCast]
    by_cases hlt : n / 64 < l.length
    · rw [if_pos (by omega), if_pos (by omega), if_pos (by omega), rd_nat, and_test (hW.getD _).1 (hW.getD _).2 (by omega) (by omega), Int.toNat_natCast]
      simp [bitAt]
    · rw [if_neg (by omega), bitAt_ge (by omega)]
      simp
  · rw [if_neg ha]
    simp [ha]

/-- The numbers of a row that are members: 0 to 4095. -/
def among (l : List Int) (i : Nat) : Bool := decide (i < 4096) && l.contains (i : Int)
theorem of_ev (l : List Int) (hl : l.length ≤ 9223372036854775806) (hb : ∀ x ∈ l, -9223372036854775808 ≤ x ∧ x ≤ 9223372036854775807) : ∀ (d i : Nat) (s : List Int), d + i = l.length → s.length = 64 → Wd s → (∀ j, bitAt s j = among (l.take i) j) →
    ∃ r, Ev (fun k => bits_Of.l0 k s l (l.length : Int) (i : Int)) r ∧ Wd r ∧ r.length ≤ 64 ∧ ∀ j, bitAt r j = among l j := by
  intro d
  induction d with
  | zero =>
    intro i s hd hs hW hj
    obtain ⟨r, h1, h2, h3, h4⟩ := short_f hW (by omega)
    refine ⟨r, ?_, h2, by omega, fun j => by rw [h4, hj, List.take_of_length_le (by omega)]⟩
    refine Ev.step (f := fun k => (bits_short.f k s).bind fun t => some t) (fun k => ?_) (Ev.bind h1 (Ev.now r))
    simp only [bits_Of.l0]
    rw [if_neg (by omega)]
  | succ d ih =>
    intro i s hd hs hW hj
    have hi : i < l.length := by omega
    have hx := hb (l.getD i 0) (by rw [List.getD_eq_getElem?_getD, List.getElem?_eq_getElem hi]; exact List.getElem_mem hi)
    have htk : l.take (i + 1) = l.take i ++ [l.getD i 0] := by
      rw [List.take_succ_eq_append_getElem hi, List.getD_eq_getElem?_getD, List.getElem?_eq_getElem hi]; rfl
    have hw := wr1 (n := i) (by omega)
    by_cases hin : 0 ≤ l.getD i 0 ∧ l.getD i 0 < 4096
    · obtain ⟨m, hm⟩ := Int.eq_ofNat_of_zero_le hin.1
      have hm2 : m < 4096 := by have := hin.2; rw [hm] at this; omega
      have e1 : wrap64 ((m : Int).tdiv 64) = ((m / 64 : Nat) : Int) := by
        rw [Int.tdiv_eq_ediv_of_nonneg (by omega), wr (by omega) (by omega)]; omega
      have e2 : (m : Int).tmod 64 = ((m % 64 : Nat) : Int) := by rw [Int.tmod_eq_emod_of_nonneg (by omega)]; omega
      obtain ⟨hW2, hj2⟩ := bitAt_put hW (m := m) (by omega) (y := Go.bits .or .u64 (s.getD (m / 64) 0) (shl .u64 1 ((m % 64 : Nat) : Int))) rfl
      obtain ⟨r, h1, h2⟩ := ih (i + 1) _ (by omega) (by simpa using hs) hW2 (fun j => by
        rw [hj2, hj, htk, hm]
        unfold among
        by_cases hjm : j = m
        · subst hjm; simp [hm2]
        · have : ¬ ((j : Int) = (m : Int)) := by omega
          simp [hjm, this])
      refine ⟨r, Ev.step (fun k => ?_) h1, h2⟩
      simp only [bits_Of.l0]
      rw [if_pos (by omega), if_pos (by omega), if_pos (by omega), rd_nat, hm, if_pos (by omega), if_pos (by omega), e1, e2, if_pos (by omega), if_pos (by omega), if_pos (by omega), hw, Int.toNat_natCast, rd_nat]
    · obtain ⟨r, h1, h2⟩ := ih (i + 1) s (by omega) hs hW (fun j => by
        rw [hj, htk]
        unfold among
        by_cases hj4 : j < 4096
        · have : ¬ ((j : Int) = l.getD i 0) := fun e => hin (by rw [← e]; omega)
          simp only [List.getD_eq_getElem?_getD] at this
          simp [this]
        · simp [hj4])
      refine ⟨r, Ev.step (fun k => ?_) h1, h2⟩
      simp only [bits_Of.l0]
      rw [if_pos (by omega), if_pos (by omega), if_pos (by omega), rd_nat, hw]
      by_cases h0 : 0 ≤ l.getD i 0
      · rw [if_pos h0, if_neg (by omega)]
      · rw [if_neg h0]
theorem of_f (l : List Int) (hl : l.length ≤ 9223372036854775806) (hb : ∀ x ∈ l, -9223372036854775808 ≤ x ∧ x ≤ 9223372036854775807) : ∃ r, Ev (fun k => bits_Of.f k l) r ∧ Wd r ∧ r.length ≤ 64 ∧ ∀ j, bitAt r j = among l j := by
  obtain ⟨r, h1, h2⟩ := of_ev l hl hb l.length 0 (List.replicate 64 0) (by omega) (by simp) (Wd.replicate 64) (fun j => by rw [bitAt_replicate]; simp [among])
  refine ⟨r, Ev.congr (fun k => ?_) h1, h2⟩
  unfold bits_Of.f
  rw [if_pos (by omega)]
  rfl

theorem at_f {l : List Int} {i : Nat} : bits_at.f l (i : Int) = some (l.getD i 0) := by
  unfold bits_at.f
  by_cases h : i < l.length
  · rw [if_pos (by omega), if_pos (by omega), rd_nat]
  · rw [if_neg (by omega), List.getD_eq_getElem?_getD, List.getElem?_eq_none (by omega)]; rfl
theorem or_ev (a b : List Int) (ha : Wd a) (hb : Wd b) (n : Nat) (hn : n < 17592186044416) : ∀ (d i : Nat) (s : List Int), d + i = n → s.length = n → Wd s → (∀ j, j < i → ∀ q, (s.getD j 0).toNat.testBit q = ((a.getD j 0).toNat.testBit q || (b.getD j 0).toNat.testBit q)) →
    ∃ r, Ev (fun k => bits_Or.l0 k a b s (n : Int) (i : Int)) r ∧ Wd r ∧ r.length ≤ n ∧ ∀ j, j / 64 < n → bitAt r j = (bitAt a j || bitAt b j) := by
  intro d
  induction d with
  | zero =>
    intro i s hd hs hW hj
    obtain ⟨r, h1, h2, h3, h4⟩ := short_f hW (by omega)
    refine ⟨r, ?_, h2, by omega, fun j hjn => by rw [h4]; exact hj _ (by omega) _⟩
    refine Ev.step (f := fun k => (bits_short.f k s).bind fun t => some t) (fun k => ?_) (Ev.bind h1 (Ev.now r))
    simp only [bits_Or.l0]
    rw [if_neg (by omega)]
  | succ d ih =>
    intro i s hd hs hW hj
    have ho := or_word (ha.getD i).1 (ha.getD i).2 (hb.getD i).1 (hb.getD i).2
    obtain ⟨r, h1, h2⟩ := ih (i + 1) (s.set i (Go.bits .or .u64 (a.getD i 0) (b.getD i 0))) (by omega) (by simpa using hs) (hW.set i ho.1 ho.2.1) (fun j hji q => by
      rw [getD_set _ _ _ _ (by omega)]
      by_cases e : i = j
      · subst e; rw [if_pos rfl]; exact ho.2.2 q
      · rw [if_neg e]; exact hj j (by omega) q)
    refine ⟨r, Ev.step (fun k => ?_) h1, h2⟩
    simp only [bits_Or.l0]
    rw [if_pos (by omega), at_f, at_f]
    simp only [Option.bind_some]
    rw [if_pos (by omega), if_pos (by omega), Int.toNat_natCast, wr1 (by omega)]
theorem or_f {a b : List Int} (ha : Wd a) (hb : Wd b) (hla : a.length < 17592186044416) (hlb : b.length < 17592186044416) : ∃ r, Ev (fun k => bits_Or.f k a b) r ∧ Wd r ∧ r.length ≤ max a.length b.length ∧ ∀ j, bitAt r j = (bitAt a j || bitAt b j) := by
  have hmx : mx (a.length : Int) (b.length : Int) = ((max a.length b.length : Nat) : Int) := by unfold mx; split <;> omega
  obtain ⟨r, h1, h2, h3, h4⟩ := or_ev a b ha hb (max a.length b.length) (by omega) (max a.length b.length) 0 (List.replicate (max a.length b.length) 0) (by omega) (by simp) (Wd.replicate _) (fun j hj => by omega)
  refine ⟨r, Ev.congr (fun k => ?_) h1, h2, h3, fun j => ?_⟩
  · unfold bits_Or.f
    rw [hmx, if_pos (by omega), if_pos (by omega), Int.toNat_natCast]
    simp only [Option.bind_some]
    rw [List.length_replicate]
    rfl
  · by_cases hj : j / 64 < max a.length b.length
    · exact h4 j hj
    · rw [bitAt_ge (by omega), bitAt_ge (by omega), bitAt_ge (by omega)]; rfl
theorem with_f {a : List Int} (ha : Wd a) (hla : a.length ≤ 64) {i : Nat} (hi : i < 4096) : ∃ r, Ev (fun k => bits_With.f k a (i : Int)) r ∧ Wd r ∧ r.length ≤ 64 ∧ ∀ j, bitAt r j = (bitAt a j || j == i) := by
  obtain ⟨s, h1, h2, h3, h4⟩ := of_f [(i : Int)] (by simp) (fun x hx => by rw [List.mem_singleton] at hx; omega)
  obtain ⟨r, k1, k2, k3, k4⟩ := or_f ha h2 (by omega) (by omega)
  refine ⟨r, ?_, k2, by omega, fun j => ?_⟩
  · exact Ev.bind h1 (Ev.bind k1 (Ev.now r))
  · rw [k4, h4]
    congr 1
    unfold among
    by_cases e : j = i
    · subst e; simp [hi]
    · have : (j : Int) ≠ (i : Int) := by omega
      simp only [List.contains_cons, List.contains_nil, Bool.or_false]
      rw [beq_eq_false_iff_ne.2 this, beq_eq_false_iff_ne.2 e, Bool.and_false]
end Go.Proofs.Ytfkmngmnnlgjdaa.Gr

/- Plain facts on graphs: neighbours, what can be come to from a node, the parts, the shell. No program in sight. -/
namespace Go.Proofs.Ytfkmngmnnlgjdaa.Pu

theorem nodup_sub (l m : List Nat) (h : l.Nodup) (hs : ∀ x ∈ l, x ∈ m) : l.length ≤ m.length := List.Nodup.length_le_of_subset h hs

/-- A graph's joins. -/
abbrev Adj := Nat → Nat → Bool
/-- Each join both ways, none of a node with itself, all below n. -/
structure Sane (n : Nat) (adj : Adj) : Prop where
  sym : ∀ a b, adj a b = adj b a
  irr : ∀ a, adj a a = false
  lt : ∀ a b, adj a b = true → a < n
theorem Sane.lt2 {n : Nat} {adj : Adj} (h : Sane n adj) {a b : Nat} (hab : adj a b = true) : b < n := h.lt b a (by rw [h.sym]; exact hab)
/-- One join more. -/
def put (adj : Adj) (a b : Nat) : Adj := fun x y => adj x y || (x == a && y == b) || (x == b && y == a)
theorem Sane.put {n : Nat} {adj : Adj} (h : Sane n adj) {a b : Nat} (ha : a < n) (hb : b < n) (hab : a ≠ b) : Sane n (put adj a b) where
  sym x y := by
    unfold Pu.put
    rw [h.sym x y]
    cases adj y x <;> cases h1 : x == a <;> cases h2 : y == b <;> cases h3 : x == b <;> cases h4 : y == a <;> rfl
  irr x := by
    unfold Pu.put
    rw [h.irr x]
    by_cases h1 : x = a
    · have : (x == b) = false := by rw [beq_eq_false_iff_ne]; omega
      rw [this]; simp
    · have : (x == a) = false := by rw [beq_eq_false_iff_ne]; exact h1
      rw [this]; simp
  lt x y hxy := by
    unfold Pu.put at hxy
    simp only [Bool.or_eq_true, Bool.and_eq_true, beq_iff_eq] at hxy
    rcases hxy with (hxy | hxy) | hxy
    · exact h.lt x y hxy
    · omega
    · omega
theorem sane_none (n : Nat) : Sane n (fun _ _ => false) := ⟨fun _ _ => rfl, fun _ => rfl, fun _ _ h => by cases h⟩

/-- Neighbours, rising. -/
def near (n : Nat) (adj : Adj) (a : Nat) : List Nat := (List.range n).filter (adj a)
/-- Whole numbers. -/
def nats (l : List Nat) : List Int := l.map Int.ofNat
theorem mem_near {n : Nat} {adj : Adj} (h : Sane n adj) {a b : Nat} : b ∈ near n adj a ↔ adj a b = true := by
  unfold near
  rw [List.mem_filter, List.mem_range]
  exact ⟨fun h => h.2, fun hb => ⟨h.lt2 hb, hb⟩⟩
theorem near_nodup (n : Nat) (adj : Adj) (a : Nat) : (near n adj a).Nodup := List.Pairwise.filter _ List.nodup_range

/-- What can be come to. -/
inductive Reach (adj : Adj) (a : Nat) : Nat → Prop where
  | refl : Reach adj a a
  | step {b c : Nat} : Reach adj a b → adj b c = true → Reach adj a c
theorem Reach.trans {adj : Adj} {a b c : Nat} (h : Reach adj a b) (k : Reach adj b c) : Reach adj a c := by
  induction k with
  | refl => exact h
  | step _ hs ih => exact ih.step hs
theorem Reach.symm {n : Nat} {adj : Adj} (hS : Sane n adj) {a b : Nat} (h : Reach adj a b) : Reach adj b a := by
  induction h with
  | refl => exact .refl
  | step _ hs ih => exact (Reach.step .refl (by rw [hS.sym]; exact hs)).trans ih
theorem Reach.lt {n : Nat} {adj : Adj} (hS : Sane n adj) {a b : Nat} (h : Reach adj a b) (ha : a < n) : b < n := by
  induction h with
  | refl => exact ha
  | step _ hs _ => exact hS.lt2 hs
/-- A set that has a node and is shut under joins has all that can be come to. -/
theorem Reach.inside {adj : Adj} {a b : Nat} {I : Nat → Prop} (h : Reach adj a b) (ha : I a) (hs : ∀ x y, I x → adj x y = true → I y) : I b := by
  induction h with
  | refl => exact ha
  | step _ h1 ih => exact hs _ _ ih h1

open Classical in
/-- A node's part, rising. -/
noncomputable def comp (n : Nat) (adj : Adj) (a : Nat) : List Nat := (List.range n).filter (fun b => decide (Reach adj a b))
/-- Is a node the least of its part? -/
def Least (adj : Adj) (a : Nat) : Prop := ∀ b, b < a → ¬ Reach adj b a
open Classical in
/-- The parts of the nodes below k that are least in theirs. -/
noncomputable def partsTo (n : Nat) (adj : Adj) (k : Nat) : List (List Nat) := ((List.range k).filter (fun a => decide (Least adj a))).map (comp n adj)
noncomputable def parts (n : Nat) (adj : Adj) : List (List Nat) := partsTo n adj n
theorem partsTo_zero (n : Nat) (adj : Adj) : partsTo n adj 0 = [] := rfl
open Classical in
theorem partsTo_yes {n : Nat} {adj : Adj} {k : Nat} (h : Least adj k) : partsTo n adj (k + 1) = partsTo n adj k ++ [comp n adj k] := by
  unfold partsTo
  rw [List.range_succ, List.filter_append, List.map_append]
  simp [h]
open Classical in
theorem partsTo_no {n : Nat} {adj : Adj} {k : Nat} (h : ¬ Least adj k) : partsTo n adj (k + 1) = partsTo n adj k := by
  unfold partsTo
  rw [List.range_succ, List.filter_append, List.map_append]
  simp [h]
open Classical in
theorem partsTo_length (n : Nat) (adj : Adj) (k : Nat) : (partsTo n adj k).length ≤ k := by
  unfold partsTo
  rw [List.length_map]
  exact Nat.le_trans (List.length_filter_le _ _) (by rw [List.length_range]; exact Nat.le_refl _)
open Classical in
theorem mem_comp {n : Nat} {adj : Adj} (hS : Sane n adj) {a b : Nat} (ha : a < n) : b ∈ comp n adj a ↔ Reach adj a b := by
  unfold comp
  rw [List.mem_filter, List.mem_range, decide_eq_true_iff]
  exact ⟨fun h => h.2, fun h => ⟨h.lt hS ha, h⟩⟩
open Classical in
theorem comp_eq {n : Nat} {adj : Adj} {a : Nat} {I : Nat → Bool} (hI : ∀ b, I b = true ↔ Reach adj a b) : (List.range n).filter I = comp n adj a := by
  unfold comp
  apply List.filter_congr
  intro b _
  cases h : I b with
  | true => exact (decide_eq_true ((hI b).1 h)).symm
  | false =>
    refine (decide_eq_false (fun hr => ?_)).symm
    rw [(hI b).2 hr] at h
    cases h

/-! ### the search from a node: a set, and a row of nodes whose neighbours are still to be looked at -/
/-- A set with one more. -/
def also (I : Nat → Bool) (y : Nat) : Nat → Bool := fun x => I x || x == y
theorem also_self (I : Nat → Bool) (y : Nat) : also I y y = true := by simp [also]
theorem also_old {I : Nat → Bool} {x : Nat} (y : Nat) (h : I x = true) : also I y x = true := by simp [also, h]
theorem also_cases {I : Nat → Bool} {x y : Nat} (h : also I y x = true) : I x = true ∨ x = y := by simpa [also] using h
structure Bfs (adj : Adj) (a : Nat) (I : Nat → Bool) (wk : List Nat) : Prop where
  here : I a = true
  reach : ∀ x, I x = true → Reach adj a x
  onWk : ∀ x ∈ wk, I x = true
  shut : ∀ x y, I x = true → x ∉ wk → adj x y = true → I y = true
structure BfsIn (adj : Adj) (a : Nat) (I : Nat → Bool) (wk : List Nat) (x : Nat) (done : List Nat) : Prop where
  here : I a = true
  reach : ∀ x, I x = true → Reach adj a x
  onWk : ∀ x ∈ wk, I x = true
  ix : I x = true
  shut : ∀ z y, I z = true → z ∉ wk → z ≠ x → adj z y = true → I y = true
  done : ∀ y ∈ done, I y = true
theorem Bfs.start (adj : Adj) (a : Nat) : Bfs adj a (fun x => x == a) [a] where
  here := by simp
  reach x hx := by
    obtain rfl : x = a := by simpa using hx
    exact .refl
  onWk x hx := by simpa using hx
  shut x y hx hn := by
    obtain rfl : x = a := by simpa using hx
    simp at hn
theorem Bfs.pop {adj : Adj} {a : Nat} {I : Nat → Bool} {x : Nat} {wk : List Nat} (h : Bfs adj a I (x :: wk)) : BfsIn adj a I wk x [] where
  here := h.here
  reach := h.reach
  onWk y hy := h.onWk y (List.mem_cons_of_mem _ hy)
  ix := h.onWk x List.mem_cons_self
  shut z y hz hn hx := h.shut z y hz (by simp [hn, hx])
  done y hy := by cases hy
theorem BfsIn.old {adj : Adj} {a : Nat} {I : Nat → Bool} {wk : List Nat} {x : Nat} {done : List Nat} (h : BfsIn adj a I wk x done) {y : Nat} (hy : I y = true) : BfsIn adj a I wk x (done ++ [y]) :=
  ⟨h.here, h.reach, h.onWk, h.ix, h.shut, fun z hz => by
    rcases List.mem_append.1 hz with hz | hz
    · exact h.done z hz
    · rw [List.mem_singleton] at hz; subst hz; exact hy⟩
theorem BfsIn.new {adj : Adj} {a : Nat} {I : Nat → Bool} {wk : List Nat} {x : Nat} {done : List Nat} (h : BfsIn adj a I wk x done) {y : Nat} (hxy : adj x y = true) : BfsIn adj a (also I y) (wk ++ [y]) x (done ++ [y]) where
  here := also_old y h.here
  reach z hz := by
    rcases also_cases hz with hz | rfl
    · exact h.reach z hz
    · exact (h.reach x h.ix).step hxy
  onWk z hz := by
    rcases List.mem_append.1 hz with hz | hz
    · exact also_old y (h.onWk z hz)
    · rw [List.mem_singleton] at hz; subst hz; exact also_self I z
  ix := also_old y h.ix
  shut z u hz hn hx hu := by
    rcases also_cases hz with hz | rfl
    · exact also_old y (h.shut z u hz (fun hm => hn (List.mem_append_left _ hm)) hx hu)
    · exact absurd (List.mem_append_right _ (List.mem_singleton.2 rfl)) hn
  done z hz := by
    rcases List.mem_append.1 hz with hz | hz
    · exact also_old y (h.done z hz)
    · rw [List.mem_singleton] at hz; subst hz; exact also_self I z
theorem BfsIn.over {n : Nat} {adj : Adj} (hS : Sane n adj) {a : Nat} {I : Nat → Bool} {wk : List Nat} {x : Nat} (h : BfsIn adj a I wk x (near n adj x)) : Bfs adj a I wk where
  here := h.here
  reach := h.reach
  onWk := h.onWk
  shut z y hz hn hzy := by
    by_cases hx : z = x
    · subst hx; exact h.done y ((mem_near hS).2 hzy)
    · exact h.shut z y hz hn hx hzy
theorem Bfs.all {adj : Adj} {a : Nat} {I : Nat → Bool} (h : Bfs adj a I []) (b : Nat) : I b = true ↔ Reach adj a b :=
  ⟨h.reach b, fun hr => hr.inside (I := fun x => I x = true) h.here (fun x y hx hxy => h.shut x y hx (by simp) hxy)⟩
/-- How many nodes are not in a set. -/
def cnt (n : Nat) (I : Nat → Bool) : Nat := ((List.range n).filter (fun x => !I x)).length
theorem cnt_also {n : Nat} {I : Nat → Bool} {y : Nat} (hy : y < n) (hI : I y = false) : cnt n (also I y) + 1 = cnt n I := by
  unfold cnt
  have key : ∀ m, ((List.range m).filter (fun x => !also I y x)).length + (if y < m then 1 else 0) = ((List.range m).filter (fun x => !I x)).length := by
    intro m
    induction m with
    | zero => simp
    | succ m ih =>
      rw [List.range_succ, List.filter_append, List.length_append, List.filter_append, List.length_append]
      by_cases hm : m = y
      · subst hm
        rw [if_neg (by omega)] at ih
        simp only [List.filter_cons, List.filter_nil, also_self, hI]
        simp
        omega
      · have e1 : also I y m = I m := by simp [also, hm]
        simp only [List.filter_cons, List.filter_nil, e1]
        have e3 : (if y < m + 1 then 1 else 0) = (if y < m then 1 else 0) := by
          by_cases h1 : y < m
          · rw [if_pos h1, if_pos (by omega)]
          · rw [if_neg h1, if_neg (by omega)]
        rw [e3]
        omega
  have := key n
  rw [if_pos hy] at this
  exact this
theorem cnt_le (n : Nat) (I : Nat → Bool) : cnt n I ≤ n := by
  unfold cnt
  exact Nat.le_trans (List.length_filter_le _ _) (by rw [List.length_range]; exact Nat.le_refl _)

/-- The search that keeps all that it has met in one row; the first i of them have been looked at. -/
structure Srch (n : Nat) (adj : Adj) (a : Nat) (l : List Nat) (i : Nat) : Prop where
  here : a ∈ l
  nodup : l.Nodup
  reach : ∀ x ∈ l, Reach adj a x
  lt : ∀ x ∈ l, x < n
  le : i ≤ l.length
  shut : ∀ j, j < i → ∀ y, adj (l.getD j 0) y = true → y ∈ l
theorem nodup_le {l : List Nat} {n : Nat} (h : l.Nodup) (hl : ∀ x ∈ l, x < n) : l.length ≤ n := by
  have h2 := nodup_sub l (List.range n) h (fun x hx => List.mem_range.2 (hl x hx))
  rwa [List.length_range] at h2
theorem Srch.all {n : Nat} {adj : Adj} {a : Nat} {l : List Nat} (h : Srch n adj a l l.length) (b : Nat) : b ∈ l ↔ Reach adj a b :=
  ⟨h.reach b, fun hr => hr.inside (I := fun x => x ∈ l) h.here (fun x y hx hxy => by
    obtain ⟨j, hj, he⟩ := List.getElem_of_mem hx
    refine h.shut j hj y ?_
    rw [List.getD_eq_getElem?_getD, List.getElem?_eq_getElem hj, Option.getD_some, he]
    exact hxy)⟩

/-- How many neighbours a node has among those that are not out. -/
def deg (n : Nat) (adj : Adj) (out : List Nat) (a : Nat) : Nat := ((List.range n).filter (fun b => adj a b && !out.contains b)).length
/-- The first of the nodes below k that are not out with the fewest such neighbours. -/
def bst (n : Nat) (adj : Adj) (out : List Nat) : Nat → Option Nat
  | 0 => none
  | k + 1 => if out.contains k then bst n adj out k else match bst n adj out k with
    | none => some k
    | some q => if deg n adj out k < deg n adj out q then some k else some q
def shl (n : Nat) (adj : Adj) : Nat → List Nat
  | 0 => []
  | k + 1 => shl n adj k ++ [(bst n adj (shl n adj k) n).getD 0]
def shell (n : Nat) (adj : Adj) : List Nat := shl n adj n
theorem shl_length (n : Nat) (adj : Adj) (k : Nat) : (shl n adj k).length = k := by
  induction k with
  | zero => rfl
  | succ k ih => simp [shl, ih]
theorem bst_some {n : Nat} {adj : Adj} {out : List Nat} {k q : Nat} (h : bst n adj out k = some q) : q < k ∧ out.contains q = false ∧ ∀ b, b < k → out.contains b = false → deg n adj out q ≤ deg n adj out b := by
  induction k generalizing q with
  | zero => cases h
  | succ k ih =>
    unfold bst at h
    by_cases hk : out.contains k = true
    · rw [if_pos hk] at h
      obtain ⟨h1, h2, h3⟩ := ih h
      refine ⟨by omega, h2, fun b hb hbo => ?_⟩
      rcases Nat.lt_or_ge b k with hlt | hge
      · exact h3 b hlt hbo
      · obtain rfl : b = k := by omega
        rw [hk] at hbo; cases hbo
    · rw [if_neg hk] at h
      have hk' : out.contains k = false := by simpa using hk
      cases hp : bst n adj out k with
      | none =>
        rw [hp] at h
        injection h with h
        subst h
        refine ⟨by omega, hk', fun b hb hbo => ?_⟩
        rcases Nat.lt_or_ge b k with hlt | hge
        · exfalso
          clear ih hk hk'
          induction k with
          | zero => omega
          | succ j ihj =>
            unfold bst at hp
            by_cases hj : out.contains j = true
            · rw [if_pos hj] at hp
              rcases Nat.lt_or_ge b j with h1 | h1
              · exact ihj hp (by omega) h1
              · obtain rfl : b = j := by omega
                rw [hj] at hbo; cases hbo
            · rw [if_neg hj] at hp
              cases hq : bst n adj out j with
              | none => rw [hq] at hp; cases hp
              | some r => rw [hq] at hp; simp only at hp; split at hp <;> cases hp
        · obtain rfl : b = k := by omega
          exact Nat.le_refl _
      | some r =>
        rw [hp] at h
        obtain ⟨h1, h2, h3⟩ := ih hp
        simp only at h
        split at h
        · rename_i hlt
          injection h with h
          subst h
          refine ⟨by omega, hk', fun b hb hbo => ?_⟩
          rcases Nat.lt_or_ge b k with hbk | hge
          · have := h3 b hbk hbo; omega
          · obtain rfl : b = k := by omega
            exact Nat.le_refl _
        · rename_i hlt
          injection h with h
          subst h
          refine ⟨by omega, h2, fun b hb hbo => ?_⟩
          rcases Nat.lt_or_ge b k with hbk | hge
          · exact h3 b hbk hbo
          · obtain rfl : b = k := by omega
            omega
theorem bst_none {n : Nat} {adj : Adj} {out : List Nat} {k : Nat} (h : bst n adj out k = none) : ∀ b, b < k → out.contains b = true := by
  induction k with
  | zero => intro b hb; omega
  | succ k ih =>
    unfold bst at h
    by_cases hk : out.contains k = true
    · rw [if_pos hk] at h
      intro b hb
      rcases Nat.lt_or_ge b k with hlt | hge
      · exact ih h b hlt
      · obtain rfl : b = k := by omega
        exact hk
    · rw [if_neg hk] at h
      cases hp : bst n adj out k with
      | none => rw [hp] at h; cases h
      | some r => rw [hp] at h; simp only at h; split at h <;> cases h
/-- Fewer than n different nodes: one is not among them. -/
theorem exists_fresh {out : List Nat} {n : Nat} (h : out.length < n) : ∃ b, b < n ∧ out.contains b = false := by
  apply Classical.byContradiction
  intro hno
  have hall : ∀ b, b < n → b ∈ out := by
    intro b hb
    apply Classical.byContradiction
    intro hn
    exact hno ⟨b, hb, by simpa using hn⟩
  have h2 := nodup_sub (List.range n) out List.nodup_range (fun b hb => hall b (List.mem_range.1 hb))
  rw [List.length_range] at h2
  omega
theorem bst_fresh {n : Nat} {adj : Adj} {out : List Nat} (h : out.length < n) : ∃ q, bst n adj out n = some q := by
  cases hb : bst n adj out n with
  | some q => exact ⟨q, rfl⟩
  | none =>
    obtain ⟨b, hb1, hb2⟩ := exists_fresh h
    rw [bst_none hb b hb1] at hb2
    cases hb2
/-- The shell's k-th node. -/
theorem shl_succ {n : Nat} {adj : Adj} {k : Nat} (hk : k < n) : ∃ q, shl n adj (k + 1) = shl n adj k ++ [q] ∧ bst n adj (shl n adj k) n = some q := by
  obtain ⟨q, hq⟩ := bst_fresh (adj := adj) (out := shl n adj k) (n := n) (by rw [shl_length]; exact hk)
  exact ⟨q, by simp [shl, hq], hq⟩
theorem shl_nodup {n : Nat} {adj : Adj} {k : Nat} (hk : k ≤ n) : (shl n adj k).Nodup ∧ ∀ x ∈ shl n adj k, x < n := by
  induction k with
  | zero => exact ⟨List.nodup_nil, fun x hx => by cases hx⟩
  | succ k ih =>
    obtain ⟨h1, h2⟩ := ih (by omega)
    obtain ⟨q, he, hb⟩ := shl_succ (n := n) (adj := adj) (k := k) (by omega)
    obtain ⟨hq1, hq2, _⟩ := bst_some hb
    rw [he]
    have hqm : q ∉ shl n adj k := by simpa using hq2
    refine ⟨?_, fun x hx => ?_⟩
    · rw [List.nodup_append]
      refine ⟨h1, by simp, fun x hx y hy => ?_⟩
      rw [List.mem_singleton] at hy
      subst hy
      intro e
      subst e
      exact hqm hx
    · rcases List.mem_append.1 hx with hx | hx
      · exact h2 x hx
      · rw [List.mem_singleton] at hx; subst hx; exact hq1
/-- One more out: a neighbour of it has one neighbour less. -/
theorem deg_snoc {n : Nat} {adj : Adj} (hS : Sane n adj) {out : List Nat} {q a : Nat} (hq : out.contains q = false) : deg n adj (out ++ [q]) a + (if adj a q = true then 1 else 0) = deg n adj out a := by
  unfold deg
  by_cases haq : adj a q = true
  · rw [if_pos haq]
    have hqn : q < n := hS.lt2 haq
    have key : ∀ m, (((List.range m).filter (fun b => adj a b && !(out ++ [q]).contains b)).length + (if q < m then 1 else 0)) = ((List.range m).filter (fun b => adj a b && !out.contains b)).length := by
      intro m
      induction m with
      | zero => simp
      | succ m ih =>
        rw [List.range_succ, List.filter_append, List.length_append, List.filter_append, List.length_append]
        by_cases hm : m = q
        · subst hm
          rw [if_neg (by omega)] at ih
          have e1 : (adj a m && !(out ++ [m]).contains m) = false := by simp
          have e2 : (adj a m && !out.contains m) = true := by rw [haq, hq]; rfl
          rw [List.filter_cons, List.filter_cons, e1, e2]
          rw [if_pos (by omega : m < m + 1)]
          simp only [Bool.false_eq_true, if_false, if_true, List.filter_nil, List.length_nil, List.length_singleton]
          omega
        · have e1 : (out ++ [q]).contains m = out.contains m := by
            rw [List.contains_eq_mem, List.contains_eq_mem]
            apply decide_eq_decide.2
            simp [hm]
          simp only [List.filter_cons, List.filter_nil, e1]
          have e3 : (if q < m + 1 then 1 else 0) = (if q < m then 1 else 0) := by
            by_cases h1 : q < m
            · rw [if_pos h1, if_pos (by omega)]
            · rw [if_neg h1, if_neg (by omega)]
          rw [e3]
          omega
    have := key n
    rw [if_pos hqn] at this
    exact this
  · rw [if_neg haq, Nat.add_zero]
    congr 1
    apply List.filter_congr
    intro b _
    by_cases hbq : b = q
    · subst hbq
      have : adj a b = false := by simpa using haq
      rw [this]; rfl
    · congr 1
      rw [List.contains_eq_mem, List.contains_eq_mem]
      congr 1
      apply decide_eq_decide.2
      simp [hbq]
theorem deg_nil (n : Nat) (adj : Adj) (a : Nat) : deg n adj [] a = (near n adj a).length := by
  unfold deg near
  congr 1
  apply List.filter_congr
  intro b _
  simp
theorem deg_le (n : Nat) (adj : Adj) (out : List Nat) (a : Nat) : deg n adj out a ≤ n := by
  unfold deg
  exact Nat.le_trans (List.length_filter_le _ _) (by rw [List.length_range]; exact Nat.le_refl _)
end Go.Proofs.Ytfkmngmnnlgjdaa.Pu

/- A graph in memory, and what Len, is and Has tell of it. -/
namespace Go.Proofs.Ytfkmngmnnlgjdaa.Gr
open Go Go.RowKit Go.Proofs.Ytfkmngmnnlgjdaa.Gf Go.Proofs.Ytfkmngmnnlgjdaa.Pu Go.Proofs.YtfkmngmnnlgjdaaW.PrintWords Go.Proofs.YtfkmngmnnlgjdaaW.PrintLast Go.Proofs.YtfkmngmnnlgjdaaW.PrintMore
set_option linter.unusedVariables false

/-- The rows of a graph: row a has the neighbours of a. -/
def RowsOf (n : Nat) (adj : Adj) (rows : List (List Int)) : Prop := rows.length = n ∧ n ≤ 400 ∧ Sane n adj ∧ ∀ a, a < n → Wd (rows.getD a []) ∧ (rows.getD a []).length ≤ 64 ∧ ∀ i, bitAt (rows.getD a []) i = adj a i
/-- The graph that lies at block b: v heads its rows. -/
def GIs (w : World) (b : Nat) (v : Value) (n : Nat) (adj : Adj) : Prop :=
  w.heap[b]? = some (.cells #[v] 57 (0, 0)) ∧ ∃ rows, Kd.R (Kd.slice 71 (Kd.int .u64)) 61 w 0 (fun _ => True) v rows ∧ RowsOf n adj rows

theorem GIs.lt {w : World} {b : Nat} {v : Value} {n : Nat} {adj : Adj} (h : GIs w b v n adj) : b < w.heap.size := (Array.getElem?_eq_some_iff.1 h.1).1
theorem GIs.below {w w' : World} {b : Nat} {v : Value} {n : Nat} {adj : Adj} (h : GIs w b v n adj) (hb : Below w.heap.size w w') : GIs w' b v n adj := by
  obtain ⟨h1, rows, h2, h3⟩ := h
  exact ⟨(hb.block b (Array.getElem?_eq_some_iff.1 h1).1).trans h1, rows, Kd.R_below h2 hb, h3⟩
theorem GIs.drewN {w : World} {b : Nat} {v : Value} {n : Nat} {adj : Adj} (h : GIs w b v n adj) (q : Nat) : GIs (w.drewN q) b v n adj := h.below (pw_below_drewN (Below.refl _ _) q)
theorem GIs.sane {w : World} {b : Nat} {v : Value} {n : Nat} {adj : Adj} (h : GIs w b v n adj) : Sane n adj := by
  obtain ⟨h1, rows, h2, h3⟩ := h
  exact h3.2.2.1
theorem GIs.le {w : World} {b : Nat} {v : Value} {n : Nat} {adj : Adj} (h : GIs w b v n adj) : n ≤ 400 := by
  obtain ⟨h1, rows, h2, h3⟩ := h
  exact h3.2.1
/-- What a walk reads of a graph: its cell, its rows' header. -/
theorem GIs.head {w : World} {b : Nat} {v : Value} {n : Nat} {adj : Adj} (h : GIs w b v n adj) : ∃ A c, v = .slice A n c ∧ n ≤ c ∧ w.cell? ⟨b, 0, none⟩ = some (.slice A n c) := by
  obtain ⟨h1, rows, h2, h3⟩ := h
  obtain ⟨A, c, rfl, hl, hC⟩ := Kd.R_reads h2
  rw [h3.1] at hl h1 ⊢
  exact ⟨A, c, rfl, hl, by simp [World.cell?, h1]⟩
/-- .. and a node's row. -/
theorem GIs.row {w : World} {b : Nat} {A : Option Addr} {c n : Nat} {adj : Adj} (h : GIs w b (.slice A n c) n adj) {a : Nat} (ha : a < n) :
    ∃ ad B cB l, A = some ad ∧ w.cell? (ad.add a) = some (.slice B l.length cB) ∧ l.length ≤ cB ∧ (Kd.int .u64).C w B l.length l ∧ Wd l ∧ l.length ≤ 64 ∧ ∀ i, bitAt l i = adj a i := by
  obtain ⟨h1, rows, h2, h3⟩ := h
  obtain ⟨A', c', he, hl, hC⟩ := Kd.R_reads h2
  rw [h3.1] at he hl hC
  injection he with e1 e2 e3
  subst e1 e3
  obtain ⟨ad, cs, e, _, hK, hc0⟩ := Kd.C_get hC ([] : List Int) (a : Int) (by omega) (by omega)
  obtain ⟨B, cB, rfl, l0, g0⟩ := hK
  rw [Int.toNat_natCast] at hc0 l0 g0
  have hc : w.cell? (ad.add (a * 1 + 0)) = _ := hc0 0 _ rfl
  rw [Nat.mul_one, Nat.add_zero] at hc
  have hr := h3.2.2.2 a ha
  exact ⟨ad, B, cB, rows.getD a [], e, hc, l0, g0, hr.1, hr.2.1, hr.2.2⟩

set_option maxHeartbeats 400000 in
theorem Len_is (w : World) (b : Nat) (v : Value) (n : Nat) (adj : Adj) (h : GIs w b v n adj) : Calls Try.prog 11 #[.pointer (some ⟨b, 0, none⟩)] w fun e w' => e = .returned (.int .i64 n) ∧ w = w' := by
  obtain ⟨A, c, rfl, hc, hcell⟩ := h.head
  clear h
  go_enter Try.func11, Try.ntmps11
  go_wp2
  go_ret
  exact ⟨rfl, rfl⟩
set_option maxHeartbeats 400000 in
theorem Len_nil (w : World) : Calls Try.prog 11 #[.pointer none] w fun e w' => e = .returned (.int .i64 0) ∧ w = w' := by
  go_enter Try.func11, Try.ntmps11
  go_wp2
  go_ret
  exact ⟨rfl, rfl⟩
end Go.Proofs.Ytfkmngmnnlgjdaa.Gr

/- is and Has of a graph, by the graph's cells. -/
namespace Go.Proofs.Ytfkmngmnnlgjdaa.Gr
open Go Go.RowKit Go.Proofs.Ytfkmngmnnlgjdaa.Gf Go.Proofs.Ytfkmngmnnlgjdaa.Pu Go.Proofs.YtfkmngmnnlgjdaaW.PrintWords Go.Proofs.YtfkmngmnnlgjdaaW.PrintLast Go.Proofs.YtfkmngmnnlgjdaaW.PrintMore
set_option linter.unusedVariables false

/-- Is a a node? -/
def isN (n : Nat) (a : Int) : Bool := decide (0 ≤ a) && decide (a < (n : Int))
set_option maxHeartbeats 400000 in
theorem is_is (w : World) (b : Nat) (v : Value) (n : Nat) (adj : Adj) (a : Int) (h : GIs w b v n adj) : Calls Try.prog 32 #[.pointer (some ⟨b, 0, none⟩), .int .i64 a] w fun e w' => e = .returned (.bool (isN n a)) ∧ w = w' := by
  by_cases ha : 0 ≤ a
  · by_cases hn : a < (n : Int)
    · have hr : isN n a = true := by simp [isN, ha, hn]
      have HR := Lib.hid hr
      clear hr
      go_enter Try.func32, Try.ntmps32
      go_wp2_with (go_at_call 11; refine (Len_is w b v n adj h).mono ?_; rintro e w' ⟨rfl, rfl⟩)
      go_ret
      rw [HR.out]
      exact ⟨rfl, rfl⟩
    · have hr : isN n a = false := by simp [isN, ha, hn]
      have HR := Lib.hid hr
      clear hr
      have hd : decide (a < (n : Int)) = false := by simp; omega
      go_enter Try.func32, Try.ntmps32
      go_wp2_with (go_at_call 11; refine (Len_is w b v n adj h).mono ?_; rintro e w' ⟨rfl, rfl⟩)
      go_ret
      rw [HR.out]
      exact ⟨rfl, rfl⟩
  · have hr : isN n a = false := by simp [isN, ha]
    have HR := Lib.hid hr
    clear hr
    go_enter Try.func32, Try.ntmps32
    go_wp2
    go_ret
    rw [HR.out]
    exact ⟨rfl, rfl⟩
set_option maxHeartbeats 400000 in
theorem is_nil (w : World) (a : Int) : Calls Try.prog 32 #[.pointer none, .int .i64 a] w fun e w' => e = .returned (.bool false) ∧ w = w' := by
  by_cases ha : 0 ≤ a
  · have ha2 : decide (a < 0) = false := by simp; omega
    go_enter Try.func32, Try.ntmps32
    go_wp2_with (go_at_call 11; refine (Len_nil w).mono ?_; rintro e w' ⟨rfl, rfl⟩)
    go_ret
    exact ⟨rfl, rfl⟩
  · go_enter Try.func32, Try.ntmps32
    go_wp2
    go_ret
    exact ⟨rfl, rfl⟩
/-- Are two numbers joined nodes? -/
def hasN (n : Nat) (adj : Adj) (a b : Int) : Bool := isN n a && decide (0 ≤ b) && adj a.toNat b.toNat
set_option maxHeartbeats 400000 in
theorem Has_is (w : World) (g : Nat) (v : Value) (n : Nat) (adj : Adj) (a b : Int) (h : GIs w g v n adj) (hb0 : -9223372036854775808 ≤ b) (hb1 : b ≤ 9223372036854775807) :
    Calls Try.prog 16 #[.pointer (some ⟨g, 0, none⟩), .int .i64 a, .int .i64 b] w fun e w' => e = .returned (.bool (hasN n adj a b)) ∧ Drawn0 w w' := by
  by_cases hn : isN n a = true
  · have hn2 := hn
    simp only [isN, Bool.and_eq_true, decide_eq_true_eq] at hn2
    obtain ⟨ha0, ha1⟩ := hn2
    obtain ⟨m, rfl⟩ := Int.eq_ofNat_of_zero_le ha0
    have ha2 : m < n := by omega
    obtain ⟨A, c, rfl, hc, hcell⟩ := h.head
    obtain ⟨ad, B, cB, l, rfl, hrow, hlc, hC, hW, hl64, hbit⟩ := h.row ha2
    have hr : bits_Has.f l b = some (hasN n adj (m : Int) b) := by
      rw [has_f hW hb0 hb1]
      unfold hasN
      rw [hn, Int.toNat_natCast, hbit]
      rfl
    have HR := Lib.hid hr
    have HN := Lib.hid hn
    have HC := Lib.hid hC
    have H := Lib.hid h
    clear hr hn hC h hbit hW
    go_enter Try.func16, Try.ntmps16
    go_wp2_with (first | (go_at_call 32; refine (is_is w g _ n adj _ H.out).mono ?_; rintro e w' ⟨rfl, rfl⟩; rw [HN.out]) | (go_at_call 34; refine (bits_Has.calls B cB l b _ w HC.out hlc HR.out).mono ?_; rintro e w' ⟨rfl, ⟨nd, rfl⟩⟩))
    go_ret
    exact ⟨rfl, ⟨⟨_, rfl⟩⟩⟩
  · have hn' : isN n a = false := by simpa using hn
    have hr : hasN n adj a b = false := by unfold hasN; rw [hn']; rfl
    have HR := Lib.hid hr
    have HN := Lib.hid hn'
    have H := Lib.hid h
    clear hr hn hn' h
    go_enter Try.func16, Try.ntmps16
    go_wp2_with (first | (go_at_call 32; refine (is_is w g _ n adj _ H.out).mono ?_; rintro e w' ⟨rfl, rfl⟩; rw [HN.out]))
    go_ret
    rw [HR.out]
    exact ⟨rfl, ⟨⟨0, rfl⟩⟩⟩
set_option maxHeartbeats 400000 in
theorem Has_nil (w : World) (a b : Int) : Calls Try.prog 16 #[.pointer none, .int .i64 a, .int .i64 b] w fun e w' => e = .returned (.bool false) ∧ w = w' := by
  go_enter Try.func16, Try.ntmps16
  go_wp2_with (first | (go_at_call 32; refine (is_nil w a).mono ?_; rintro e w' ⟨rfl, rfl⟩))
  go_ret
  exact ⟨rfl, rfl⟩
end Go.Proofs.Ytfkmngmnnlgjdaa.Gr

/- Plain facts on one 64-bit word: its lowest bit, and the word without it. And the numbers of a row of words, rising. -/
namespace Go.Proofs.Ytfkmngmnnlgjdaa.Pu
open Go.Proofs.YtfkmngmnnlgjdaaW.PrintWords Go.Proofs.YtfkmngmnnlgjdaaW.PrintMore

theorem low_exists (x : Nat) (h : x ≠ 0) : ∃ t m, x = 2 ^ (t + 1) * m + 2 ^ t := by
  induction x using Nat.strongRecOn with
  | _ x ih =>
    rcases Nat.mod_two_eq_zero_or_one x with h0 | h1
    · obtain ⟨t, m, e⟩ := ih (x / 2) (by omega) (by omega)
      refine ⟨t + 1, m, ?_⟩
      have : x = 2 * (x / 2) := by omega
      rw [this, e, Nat.pow_succ 2 (t + 1), Nat.pow_succ 2 t]
      have h3 : 2 ^ t * 2 * 2 * m = 2 * (2 ^ t * 2 * m) := by rw [Nat.mul_right_comm, Nat.mul_comm _ 2]
      rw [h3]
      omega
    · exact ⟨0, x / 2, by omega⟩
/-- Bit t is x's lowest. -/
def Low (x t : Nat) : Prop := ∃ m, x = 2 ^ (t + 1) * m + 2 ^ t
theorem Low.bit {x t : Nat} (h : Low x t) (j : Nat) : x.testBit j = if j < t then false else if j = t then true else x.testBit j := by
  obtain ⟨m, rfl⟩ := h
  rw [Nat.testBit_two_pow_mul_add m (Nat.pow_lt_pow_right (by omega) (by omega)) j]
  by_cases h1 : j < t
  · rw [if_pos h1, if_pos (by omega), Nat.testBit_two_pow]; simp; omega
  · rw [if_neg h1]
    by_cases h2 : j = t
    · subst h2; rw [if_pos rfl, if_pos (by omega), Nat.testBit_two_pow]; simp
    · rw [if_neg h2]
theorem Low.self {x t : Nat} (h : Low x t) : x.testBit t = true := by rw [h.bit]; simp
theorem Low.below {x t : Nat} (h : Low x t) {j : Nat} (hj : j < t) : x.testBit j = false := by rw [h.bit, if_pos hj]
theorem Low.lt {x t : Nat} (h : Low x t) (hx : x < 2 ^ 64) : t < 64 := by
  apply Classical.byContradiction
  intro hn
  have := Nat.testBit_lt_two_pow (Nat.lt_of_lt_of_le hx (Nat.pow_le_pow_right (by omega) (Nat.not_lt.1 hn)))
  rw [h.self] at this
  cases this
theorem Low.pos {x t : Nat} (h : Low x t) : 0 < x := by
  obtain ⟨m, rfl⟩ := h
  have : 0 < 2 ^ t := Nat.pow_pos (by omega)
  omega
/-- x & -x. -/
theorem Low.and_neg {x t : Nat} (h : Low x t) (hx : x < 18446744073709551616) : Go.bits .and .u64 (x : Int) (IntKind.u64.wrap (-(x : Int))) = ((2 ^ t : Nat) : Int) := by
  have hp := h.pos
  have e1 : IntKind.u64.wrap (-(x : Int)) = ((18446744073709551616 - x : Nat) : Int) := by rw [IntKind.wrap_u64]; omega
  rw [e1, u64_and (x : Int) _ (by omega) (by omega) (by omega) (by omega), Int.toNat_natCast, Int.toNat_natCast]
  congr 1
  have h64 : x < 2 ^ 64 := by simpa using hx
  have ht := h.lt h64
  apply Nat.eq_of_testBit_eq
  intro i
  have e2 : 18446744073709551616 - x = 2 ^ 64 - ((x - 1) + 1) := by simp; omega
  rw [Nat.testBit_and, e2, Nat.testBit_two_pow_sub_succ (by omega), Nat.testBit_two_pow]
  obtain ⟨m, rfl⟩ := h
  have e3 : 2 ^ (t + 1) * m + 2 ^ t - 1 = 2 ^ (t + 1) * m + (2 ^ t - 1) := by
    have : 0 < 2 ^ t := Nat.pow_pos (by omega)
    omega
  rw [e3]
  have hl1 : 2 ^ t - 1 < 2 ^ (t + 1) := by
    have : (2 : Nat) ^ t < 2 ^ (t + 1) := Nat.pow_lt_pow_right (by omega) (by omega)
    omega
  rw [Nat.testBit_two_pow_mul_add m (Nat.pow_lt_pow_right (by omega) (by omega)) i, Nat.testBit_two_pow_mul_add m hl1 i, Nat.testBit_two_pow, Nat.testBit_two_pow_sub_one]
  by_cases h1 : i < t + 1
  · rw [if_pos h1, if_pos h1]
    by_cases h2 : t = i
    · subst h2; simp [ht]
    · simp [h2]
  · rw [if_neg h1, if_neg h1]
    have : ¬ t = i := by omega
    simp only [this, decide_false]
    cases m.testBit (i - (t + 1)) <;> simp
theorem u64_xor_nat2 (a b : Nat) (ha : a < 18446744073709551616) (hb : b < 18446744073709551616) : Go.bits .xor .u64 (a : Int) (b : Int) = ((a ^^^ b : Nat) : Int) := u64_xor_nat a b ha hb
/-- The word without its lowest bit. -/
theorem Low.xor {x t : Nat} (h : Low x t) (hx : x < 18446744073709551616) : ∃ y : Nat, Go.bits .xor .u64 (x : Int) ((2 ^ t : Nat) : Int) = (y : Int) ∧ y < 18446744073709551616 ∧ y < x ∧ ∀ q, y.testBit q = (x.testBit q && decide (t < q)) := by
  have h64 : x < 2 ^ 64 := by simpa using hx
  have ht := h.lt h64
  have hp := pow_lt ht
  have hq : ∀ q, (x ^^^ 2 ^ t).testBit q = (x.testBit q && decide (t < q)) := by
    intro q
    rw [Nat.testBit_xor, Nat.testBit_two_pow]
    rcases Nat.lt_trichotomy q t with h1 | h1 | h1
    · rw [h.below h1]; simp; omega
    · subst h1; rw [h.self]; simp
    · have : ¬ t = q := by omega
      simp [this, h1]
  refine ⟨x ^^^ 2 ^ t, u64_xor_nat2 x (2 ^ t) hx hp, ?_, ?_, hq⟩
  · have := Nat.xor_lt_two_pow h64 (by simpa using hp : 2 ^ t < 2 ^ 64)
    simpa using this
  · obtain ⟨m, hm⟩ := id h
    have e : x ^^^ 2 ^ t = 2 ^ (t + 1) * m := Nat.eq_of_testBit_eq fun q => by
      rw [hq, Nat.testBit_two_pow_mul, hm, Nat.testBit_two_pow_mul_add m (Nat.pow_lt_pow_right (by omega) (by omega)) q]
      by_cases h1 : q < t + 1
      · rw [if_pos h1, decide_eq_false (by omega), decide_eq_false (by omega)]; simp
      · rw [if_neg h1, decide_eq_true (by omega), decide_eq_true (by omega)]; simp
    have h2 : 0 < 2 ^ t := Nat.pow_pos (by omega)
    omega
theorem shift_one {t n : Nat} (h : n ≤ t) : ((2 ^ t : Nat) : Int) / ((2 ^ n : Nat) : Int) = ((2 ^ (t - n) : Nat) : Int) := by
  rw [← Int.natCast_ediv, Nat.pow_div h (by omega)]
theorem pow_ne_one {d : Nat} (h : 0 < d) : (2 : Nat) ^ d ≠ 1 := by
  have : (2 : Nat) ^ 1 ≤ 2 ^ d := Nat.pow_le_pow_right (by omega) h
  omega

theorem shift_go {t k : Nat} (h : k < t) {P : Int} (hP : P = ((2 ^ t : Nat) : Int)) : (P / (2 : Int) ^ k != 1) = true := by
  have e : ((2 : Int) ^ k) = ((2 ^ k : Nat) : Int) := by simp
  rw [hP, e, shift_one (by omega), bne_iff_ne]
  have := pow_ne_one (d := t - k) (by omega)
  omega
theorem shift_end {t : Nat} {P : Int} (hP : P = ((2 ^ t : Nat) : Int)) : (P / (2 : Int) ^ t != 1) = false := by
  have e : ((2 : Int) ^ t) = ((2 ^ t : Nat) : Int) := by simp
  rw [hP, e, shift_one (Nat.le_refl _)]
  simp

/-- The numbers below p that are in a row of words, rising. -/
def elems (l : List Int) (p : Nat) : List Int := ((List.range p).filter (bitAt l)).map Int.ofNat
theorem elems_zero (l : List Int) : elems l 0 = [] := rfl
theorem elems_skip {l : List Int} {p : Nat} (d : Nat) (h : ∀ q, p ≤ q → q < p + d → bitAt l q = false) : elems l (p + d) = elems l p := by
  induction d with
  | zero => rfl
  | succ d ih =>
    have h1 := ih (fun q a b => h q a (by omega))
    unfold elems at h1 ⊢
    rw [show p + (d + 1) = (p + d) + 1 from rfl, List.range_succ, List.filter_append, List.map_append, h1]
    simp [h (p + d) (by omega) (by omega)]
theorem elems_hit {l : List Int} {p : Nat} (h : bitAt l p = true) : elems l (p + 1) = elems l p ++ [(p : Int)] := by
  unfold elems
  rw [List.range_succ, List.filter_append, List.map_append]
  simp [h]
theorem elems_length (l : List Int) (p : Nat) : (elems l p).length ≤ p := by
  unfold elems
  rw [List.length_map]
  exact Nat.le_trans (List.length_filter_le _ _) (by rw [List.length_range]; exact Nat.le_refl _)
theorem elems_prefix (l : List Int) {p q : Nat} (h : p ≤ q) : elems l p <+: elems l q := by
  obtain ⟨d, rfl⟩ : ∃ d, q = p + d := ⟨q - p, by omega⟩
  clear h
  induction d with
  | zero => exact List.prefix_refl _
  | succ d ih =>
    refine ih.trans ?_
    unfold elems
    rw [show p + (d + 1) = (p + d) + 1 from rfl, List.range_succ, List.filter_append, List.map_append]
    exact List.prefix_append _ _
/-- Whatever the row's length: a set below n. -/
theorem elems_all {l : List Int} {n : Nat} {I : Nat → Bool} (h : ∀ i, bitAt l i = I i) (hn : ∀ i, I i = true → i < n) : elems l (64 * l.length) = ((List.range n).filter I).map Int.ofNat := by
  have e : (bitAt l) = I := funext h
  unfold elems
  congr 1
  rw [e]
  have key : ∀ p, (∀ i, I i = true → i < p) → ∀ d, (List.range (p + d)).filter I = (List.range p).filter I := by
    intro p hp d
    induction d with
    | zero => rfl
    | succ d ih =>
      rw [show p + (d + 1) = (p + d) + 1 from rfl, List.range_succ, List.filter_append, ih]
      have : I (p + d) = false := by
        cases hI : I (p + d) with
        | false => rfl
        | true => have := hp _ hI; omega
      simp [this]
  have hm : ∀ i, I i = true → i < 64 * l.length := by
    intro i hi
    apply Classical.byContradiction
    intro hge
    rw [← h, bitAt_ge (by omega)] at hi
    cases hi
  rcases Nat.le_total n (64 * l.length) with hle | hle
  · obtain ⟨d, hd⟩ : ∃ d, 64 * l.length = n + d := ⟨64 * l.length - n, by omega⟩
    rw [hd]
    exact key n hn d
  · obtain ⟨d, hd⟩ : ∃ d, n = 64 * l.length + d := ⟨n - 64 * l.length, by omega⟩
    rw [hd]
    exact (key _ hm d).symm
end Go.Proofs.Ytfkmngmnnlgjdaa.Pu

/- The iterator of package bits (All): it hands on, rising, just the numbers of the set as it was when All was called. -/
namespace Go.Proofs.Ytfkmngmnnlgjdaa.Gr
open Go Go.RowKit Go.Shelf Go.Proofs.Ytfkmngmnnlgjdaa.Gf Go.Proofs.Ytfkmngmnnlgjdaa.Pu Go.Proofs.YtfkmngmnnlgjdaaW.PrintWords Go.Proofs.YtfkmngmnnlgjdaaW.PrintLast Go.Proofs.YtfkmngmnnlgjdaaW.PrintMore
set_option linter.unusedVariables false
attribute [local go_sem] Oper.semAt_some

/-- The words of a row. -/
def wd (l : List Int) (i : Nat) : Nat := (l.getD i 0).toNat
theorem wd_lt {l : List Int} (h : Wd l) (i : Nat) : wd l i < 18446744073709551616 := by have := h.getD i; unfold wd; omega
theorem wd_bit (l : List Int) (i q : Nat) (hq : q < 64) : (wd l i).testBit q = bitAt l (64 * i + q) := by
  unfold wd bitAt
  rw [show (64 * i + q) / 64 = i by omega, show (64 * i + q) % 64 = q by omega]
/-- What is left of word i when the numbers below s are done. -/
def LeftW (l : List Int) (i s x : Nat) : Prop := x < 18446744073709551616 ∧ s ≤ 64 ∧ ∀ q, x.testBit q = (decide (s ≤ q) && (wd l i).testBit q)
theorem LeftW.start {l : List Int} (h : Wd l) (i : Nat) : LeftW l i 0 (wd l i) := ⟨wd_lt h i, by omega, fun q => by simp⟩
theorem LeftW.over {l : List Int} {i s : Nat} (h : LeftW l i s 0) : elems l (64 * i + s) = elems l (64 * (i + 1)) := by
  obtain ⟨d, hd⟩ : ∃ d, 64 = s + d := ⟨64 - s, by have := h.2.1; omega⟩
  rw [show 64 * (i + 1) = (64 * i + s) + d by omega]
  refine (elems_skip d (fun q h1 h2 => ?_)).symm
  have := h.2.2 (q - 64 * i)
  rw [Nat.zero_testBit, wd_bit l i _ (by omega)] at this
  rw [show 64 * i + (q - 64 * i) = q by omega] at this
  simpa [show s ≤ q - 64 * i by omega] using this.symm
theorem LeftW.next {l : List Int} {i s x t : Nat} (h : LeftW l i s x) (ht : Low x t) : elems l (64 * i + (t + 1)) = elems l (64 * i + s) ++ [((64 * i + t : Nat) : Int)] ∧ s ≤ t ∧ t < 64 ∧
    ∃ y : Nat, Go.bits .xor .u64 (x : Int) ((2 ^ t : Nat) : Int) = (y : Int) ∧ y < x ∧ LeftW l i (t + 1) y := by
  have h64 : x < 2 ^ 64 := by simpa using h.1
  have htl := ht.lt h64
  have hself := ht.self
  rw [h.2.2] at hself
  simp only [Bool.and_eq_true, decide_eq_true_eq] at hself
  obtain ⟨y, e, hy, hyx, hb⟩ := ht.xor h.1
  refine ⟨?_, hself.1, htl, y, e, hyx, hy, by omega, fun q => ?_⟩
  · rw [show 64 * i + (t + 1) = (64 * i + t) + 1 by omega, elems_hit (by rw [← wd_bit l i t htl]; exact hself.2)]
    congr 1
    obtain ⟨d, hd⟩ : ∃ d, t = s + d := ⟨t - s, by omega⟩
    rw [show 64 * i + t = (64 * i + s) + d by omega]
    refine elems_skip d (fun q h1 h2 => ?_)
    have h3 := ht.below (j := q - 64 * i) (by omega)
    rw [h.2.2, wd_bit l i _ (by omega), show 64 * i + (q - 64 * i) = q by omega] at h3
    simpa [show s ≤ q - 64 * i by omega] using h3
  · rw [hb, h.2.2]
    by_cases h1 : t < q
    · simp [h1, show s ≤ q by omega, show t + 1 ≤ q by omega]
    · simp [h1, show ¬ t + 1 ≤ q by omega]

set_option maxRecDepth 100000 in
set_option maxHeartbeats 4000000 in
theorem all1_in (F : Fence) (n : Nat) (h6 : F.fn 43) (hro : F.round = none) (hn : 1 ≤ n) (lp Bn : Nat) (Kp : World → World → Prop) (hKr : ∀ W, Kp W W) (hKt : ∀ {X Y Z : World}, Kp X Y → Kp Y Z → Kp X Z) (A : Option Addr) (c : Nat) (l : List Int) (hW : Wd l) (hl : l.length ≤ 64) (hc : l.length ≤ c) (J Jx : List Int → World → Prop)
    (hY : ∀ pre x W, J pre W → pre.length < (elems l (64 * l.length)).length → YieldAt F (n - 1) Try.prog lp #[.int .i64 x] W fun e W' =>
      (e = .returned (.bool true) ∧ J (pre ++ [x]) W' ∧ Kp W W') ∨ (e = .returned (.bool false) ∧ Jx (pre ++ [x]) W'))
    (W : World) (hBn : W.cell? ⟨Bn, 0, none⟩ = some (.slice A l.length c)) (hL : ∀ W', Kp W W' → (Kd.int .u64).C W' A l.length l) (h0 : J [] W) :
    CallsIn F n Try.prog 43 #[.func (.yield lp) #[] #[], .pointer (some ⟨Bn, 0, none⟩)] W fun e W' => (∃ v, e = .returned v) ∧
      ((∃ ys, ys = elems l (64 * l.length) ∧ J ys W') ∨ (∃ pre, pre <+: elems l (64 * l.length) ∧ Jx pre W')) := by
  refine callsIn_of_wp Try.func43 rfl h6 ?_ hro
  simp only [Try.ntmps43, List.size_toArray, List.length_cons, List.length_nil, Nat.reduceAdd, Nat.reduceSub, Array.replicate_succ, Array.replicate_zero, List.push_toArray, List.append_toArray, List.nil_append, List.cons_append]
  gi_wp2
  gi_loopw [9] (fun v9 wr => ∃ i : Nat, i ≤ l.length ∧ v9 = .int .i64 i ∧ J (elems l (64 * i)) wr ∧ Kp W wr) (fun v9 _ => l.length - (intOf v9).toNat)
  case atStart => exact ⟨0, Nat.zero_le _, rfl, h0, hKr _⟩
  case round =>
    obtain ⟨i, hi, rfl, hJ, hB⟩ := hrel
    by_cases hlt : i < l.length
    · obtain ⟨ad, e, hx⟩ := Kd.at_int (hL wr hB) (i : Int) (by omega) (by omega)
      cases e
      rw [Int.toNat_natCast] at hx
      have hwd : rd l (i : Int) = ((wd l i : Nat) : Int) := by unfold wd; rw [rd_nat]; have := (hW.getD i).1; omega
      rw [hwd] at hx
      gi_wp2
      gi_loopw [4] (fun v4 wr => ∃ s x : Nat, v4 = .int .u64 (x : Int) ∧ LeftW l i s x ∧ J (elems l (64 * i + s)) wr ∧ Kp W wr) (fun v4 _ => (intOf v4).toNat)
      case atStart => exact ⟨0, wd l i, rfl, LeftW.start hW i, hJ, hB⟩
      case round =>
        clear hJ hB hx hwd
        rename_i wr0 _ _ _ _ _
        obtain ⟨s, x, rfl, hX, hJ, hB⟩ := hrel
        by_cases hx0 : x = 0
        · subst hx0
          gi_wp2
          exact ⟨⟨i + 1, by omega, by go_num, by rw [← hX.over]; exact hJ, hB⟩, by simp [intOf]; omega⟩
        · obtain ⟨t, m, hm⟩ := low_exists x hx0
          have ht : Low x t := ⟨m, hm⟩
          clear hm
          obtain ⟨hel, hst, ht64, y, hxor, hyx, hY'⟩ := hX.next ht
          have hand := ht.and_neg hX.1
          obtain ⟨P, hP⟩ : ∃ P : Int, P = ((2 ^ t : Nat) : Int) := ⟨_, rfl⟩
          rw [← hP] at hxor hand
          have HP := Lib.hid hP
          clear hP
          have HXOR := Lib.hid hxor
          clear hxor
          have HEL := Lib.hid hel
          clear hel
          have hx1 : ((x : Int) != 0) = true := by rw [bne_iff_ne]; omega
          gi_wp2
          gi_loop [6] (fun v6 => ∃ k : Nat, k ≤ t ∧ v6 = .int .i64 (k : Int)) (fun v6 => t - (intOf v6).toNat)
          case atStart => exact ⟨0, Nat.zero_le _, rfl⟩
          case round =>
            obtain ⟨k, hk, rfl⟩ := hrel
            by_cases hkt : k < t
            · have hsh := shift_go hkt HP.out
              gi_wp2
              exact ⟨⟨k + 1, by omega, by go_num⟩, by simp [intOf]; omega⟩
            · obtain rfl : k = t := by omega
              have hsh := shift_end HP.out
              have hpre : elems l (64 * i + (k + 1)) <+: elems l (64 * l.length) := elems_prefix l (by omega)
              have hin : (elems l (64 * i + s)).length < (elems l (64 * l.length)).length := by
                have := hpre.length_le
                rw [HEL.out, List.length_append, List.length_singleton] at this
                omega
              rw [HEL.out, show ((64 * i + k : Nat) : Int) = 64 * (i : Int) + (k : Int) by omega] at hpre
              have hjn : ∀ W', J (elems l (64 * i + s) ++ [64 * (i : Int) + (k : Int)]) W' → J (elems l (64 * i + (k + 1))) W' := by
                intro W' hj
                rw [HEL.out, show ((64 * i + k : Nat) : Int) = 64 * (i : Int) + (k : Int) by omega]
                exact hj
              obtain ⟨fn, tmps, assign, body, hy, hR⟩ := hY (elems l (64 * i + s)) (64 * (i : Int) + (k : Int)) wr hJ hin
              gi_wp2
              refine hR.mono ?_
              rintro e W3 (⟨rfl, hJ3, hk3⟩ | ⟨rfl, hJx3⟩)
              · gi_wp2
                exact ⟨⟨k + 1, y, by rw [HXOR.out], hY', hjn _ hJ3, hKt hB hk3⟩, by rw [HXOR.out]; simp [intOf]; omega⟩
              · gi_wp2
                refine bodyPost_ret (results_none rfl _ _ _) rfl ?_
                exact ⟨⟨_, rfl⟩, .inr ⟨_, hpre, hJx3⟩⟩
    · gi_wp2
      go_end0
      obtain rfl : i = l.length := by omega
      exact ⟨⟨_, rfl⟩, .inl ⟨_, rfl, hJ⟩⟩
end Go.Proofs.Ytfkmngmnnlgjdaa.Gr

/- List of package bits: the numbers of a set, rising, in new memory. -/
namespace Go.Proofs.Ytfkmngmnnlgjdaa.Gr
open Go Go.RowKit Go.Shelf Go.Proofs.Ytfkmngmnnlgjdaa.Gf Go.Proofs.Ytfkmngmnnlgjdaa.Pu Go.Proofs.YtfkmngmnnlgjdaaW.PrintWords Go.Proofs.YtfkmngmnnlgjdaaW.PrintLast Go.Proofs.YtfkmngmnnlgjdaaW.PrintMore
set_option linter.unusedVariables false
attribute [local go_sem] Oper.semAt_some

set_option maxHeartbeats 400000 in
theorem All_any (w : World) (A : Option Addr) (c : Nat) (l : List Int) (hW : Wd l) (hl : l.length ≤ 64) (hc : l.length ≤ c) (hC : (Kd.int .u64).C w A l.length l) :
    Calls Try.prog 40 #[.slice A l.length c] w fun e w' => ∃ (B : Nat) (A' : Option Addr) (c' : Nat) (l' : List Int), e = .returned (.func (.func 43) #[] #[.pointer (some ⟨B, 0, none⟩)]) ∧
      w'.cell? ⟨B, 0, none⟩ = some (.slice A' l'.length c') ∧ (∃ k0, w.heap.size ≤ k0 ∧ k0 < w'.heap.size ∧ ∀ W', W'.heap[k0]? = w'.heap[k0]? → (Kd.int .u64).C W' A' l'.length l') ∧ Wd l' ∧ l'.length ≤ 64 ∧ l'.length ≤ c' ∧ (∀ i, bitAt l' i = bitAt l i) ∧ B < w'.heap.size ∧ Below w.heap.size w w' := by
  obtain ⟨r, hev, hWr, hlr, hbr⟩ := short_f hW (by omega)
  obtain ⟨k, hk⟩ := hev.rounds
  go_enter Try.func40, Try.ntmps40
  go_wp2_with (go_at_call 41; refine (bits_short.calls k A c l r w hC hc hk).mono ?_; rintro e w1 ⟨v, rfl, hR, hB⟩; obtain ⟨A', c', rfl, hl', hC'⟩ := Kd.R_reads hR)
  go_ret
  refine ⟨w1.heap.size, A', c', r, rfl, (Boxed.new w1 61 _).cell, ?_, hWr, by omega, hl', hbr, by simp, below_alloc hB _⟩
  have hR2 := Kd.R_tight (d := Kd.int .u64) rfl (Kd.R_below hR (below_alloc (Below.refl _ _) (.cells #[.slice A' r.length c'] 61)))
  have fin : ∀ W', (∀ k, some k = (Value.slice A' r.length c').ownBlock → W'.heap[k]? = (w1.alloc (.cells #[.slice A' r.length c'] 61)).heap[k]?) → (Kd.int .u64).C W' A' r.length r := by
    intro W' hW'
    obtain ⟨A2, c2, e2, _, hC2⟩ := Kd.R_reads (Kd.R_move hR2 hW')
    injection e2 with e3
    subst e3
    exact hC2
  cases hk0 : (Value.slice A' r.length c').ownBlock with
  | none => exact ⟨w1.heap.size, hB.size, by simp, fun W' _ => fin W' (fun k hk => by rw [hk0] at hk; cases hk)⟩
  | some k0 =>
    obtain ⟨inner, ho⟩ := Kd.R_own hR
    exact ⟨k0, own_base ho k0 hk0, by have := own_lt ho k0 hk0; simp; omega, fun W' hW' => fin W' (fun k hk => by rw [hk0] at hk; injection hk with hk; subst hk; exact hW')⟩

/-- One block lies as it lay. -/
def At0 (k0 : Nat) (W W' : World) : Prop := W'.heap[k0]? = W.heap[k0]?
theorem all_stops (F : Fence) (n : Nat) (h6 : F.fn 43) (hro : F.round = none) (hn : 1 ≤ n) (B k0 : Nat) (A : Option Addr) (c : Nat) (l : List Int) (hW : Wd l) (hl : l.length ≤ 64) (hc : l.length ≤ c) (w : World) (hB : B < w.heap.size) (hk0 : k0 < w.heap.size)
    (hcell : w.cell? ⟨B, 0, none⟩ = some (.slice A l.length c)) (hL : ∀ W', W'.heap[k0]? = w.heap[k0]? → (Kd.int .u64).C W' A l.length l) :
    SeqStopsK F n Try.prog 43 #[.pointer (some ⟨B, 0, none⟩)] (fun x : Int => #[Value.int .i64 x]) (At0 k0) (fun ys => ys = elems l (64 * l.length)) (fun pre => pre <+: elems l (64 * l.length)) (elems l (64 * l.length)).length w := fun lp J Jx W hW' _ _ hY h0 =>
  all1_in F n h6 hro hn lp B (At0 k0) (fun _ => rfl) (fun {X Y Z} h k => Eq.trans k h) A c l hW hl hc J Jx hY W ((hW'.cell (p := ⟨B, 0, none⟩) hB).trans hcell) (fun W' hb => hL W' (Eq.trans hb (hW'.block k0 hk0))) h0

theorem infoI : (Try.prog.info? 3).map (fun i => (i.zero, i.size, i.bytes)) = some (some (.int .i64 0), 1, 8) := by kernel_rfl
set_option maxRecDepth 100000 in
set_option maxHeartbeats 2000000 in
theorem List_own (w : World) (A : Option Addr) (c : Nat) (l : List Int) (hW : Wd l) (hl : l.length ≤ 64) (hc : l.length ≤ c) (hC : (Kd.int .u64).C w A l.length l) :
    Calls Try.prog 35 #[.slice A l.length c] w fun e W' => ∃ v l', e = .returned v ∧ Wd l' ∧ (∀ i, bitAt l' i = bitAt l i) ∧ W'.ownsRow w.heap.size 3 1 v (elems l' (64 * l'.length)).length ((elems l' (64 * l'.length)).map (Value.int .i64)) ∧ Below w.heap.size w W' := by
  refine (callsIn_wide (n := 9)).1 ?_
  obtain ⟨i0, hi, hz0, hz1, hz2⟩ := info_parts infoI
  refine callsIn_of_wp_marks Try.func35 rfl trivial ?_ rfl
  simp only [Try.ntmps35, List.size_toArray, List.length_cons, List.length_nil, Nat.reduceAdd, Nat.reduceSub, Array.replicate_succ, Array.replicate_zero, List.push_toArray, List.append_toArray, List.nil_append, List.cons_append]
  gi_wp2_with (refine ⟨trivial, ?_⟩; gi_at_call 40; refine (callsIn_wide.2 (All_any _ A c l hW hl hc (Kd.C_below hC (below_alloc (Below.refl _ _) _)))).mono ?_; rintro e w1 ⟨B, A', c', l', rfl, hcell, ⟨k0, hk1, hk2, hC'⟩, hW', hl', hc', hb', hBl, hBel⟩)
  rw [World.size_alloc] at hk1 hBel
  have bO : Boxed w1 w.heap.size 38 (.slice none 0 0) := (hBel.block w.heap.size (by omega)).trans (Boxed.new w 38 (.slice none 0 0))
  have hB0 : Below w.heap.size w w1 := ((Below.refl _ w).alloc (Nat.le_refl _) _).trans (hBel.mono (by omega))
  have hNb : (elems l' (64 * l'.length)).length ≤ 4096 := Nat.le_trans (elems_length _ _) (by omega)
  refine wpIn_rangeFunc_ownG rfl (by omega) (gf := 43) (lb := #[.pointer (some ⟨B, 0, none⟩)]) rfl trivial (enters_of Try.func43 (by kernel_rfl) rfl)
    (all_stops Fence.wide 8 trivial rfl (by omega) B k0 A' c' l' hW' hl' hc' w1 hBl hk2 hcell hC') (fun {X Y Z} h k => Eq.trans k h) (fun W l o o' hl h _ _ => (grownBy_putObj' W l o').block k0 (by have := (Array.getElem?_eq_some_iff.1 h).1; omega) (by simp; omega)) (Below.refl _ _) (fun _ => rfl)
    (fun pre W => (∃ v, Boxed W w.heap.size 38 v ∧ W.ownsRow w1.heap.size 3 1 v pre.length (pre.map (Value.int .i64)) ∧ True) ∧ (Below w.heap.size w W ∧ Below 0 w1 W))
    (fun _ _ _ => False)
    (OwnFrom.and (Own.from (holdsRow_own w1.heap.size w.heap.size 38 3 1 (fun pre : List Int => pre.length) (fun pre => pre.map (Value.int .i64)) (fun _ _ => True)) _) (OwnFrom.and (ownFrom_below (Nat.le_refl _) (by omega)) (ownFrom_below (Nat.zero_le _) (Nat.zero_le _))))
    (fun _ _ _ _ _ hs _ _ => hs)
    ⟨⟨_, bO, World.ownsRow_nil _ _ _ _, trivial⟩, hB0, Below.refl _ _⟩
    (fun x => { tmps := #[.slice A l.length c, undef, .slice none 0 0, .pointer (some ⟨w.heap.size, 0, none⟩), .int .i64 x, .slice A l.length c, .func (.func 43) #[] #[.pointer (some ⟨B, 0, none⟩)], .int .i64 x, undef, undef, undef, undef, undef], defers := [] }) ?assign ?body ?done ?stop
  case assign =>
    intro l x W K hK
    gi_wp2
    exact hK
  case body =>
    rintro lq pre x W ⟨⟨v, hv, hrow, _⟩, hB, hB1⟩ hlt
    have hc := hv.cell
    have hs1 : w1.heap.size ≤ W.heap.size := hB1.size
    gi_wp2_with (gi_at_builtin; refine wpListIn_append_own _ rfl _ _ 38 rfl w1.heap.size 3 i0 (.int .i64 0) 1 8 Try.underlying38 hi hz0 hz1 hz2 rfl (by decide) _ _ _ rfl (hrow.alloc _) ⟨W.heap.size, 0, none⟩ 1 1 [.int .i64 x] rfl rfl (cell_one_new _ _ _) (by simp [Value.oneCell']) (by unfold maxLen; omega) (by omega) (by simp; omega) ?_; intro v' w2 hown' hgrow _; obtain ⟨g', cap', rfl⟩ := ownsRow_succ hown'; obtain ⟨hv1, hv2, hr2, hk2', hb2⟩ := hv.appended (n₀ := w.heap.size) (by decide) (own_weaken hrow hB0.size) hB.size (Nat.le_refl _) (own_weaken hown' hB0.size) hgrow; have hc1 := hv1.cell; have hf1 := hv1.frozen)
    refine ⟨hk2'.from _, ?_, ⟨_, hv2, ?_, trivial⟩, hB.trans hb2, hB1.trans (hb2.mono (Nat.zero_le _))⟩
    · refine (Below.heap_setCell _ _ _ k0 (by show k0 ≠ w.heap.size; omega)).trans ((hgrow.block k0 (by simp; omega) (fun e => ?_)).trans (Below.heap_alloc W _ k0 (by omega)))
      have := own_base hrow k0 e.symm
      omega
    · have h3 := hown'.kept (grownBy_setCell' w2 w.heap.size (.slice (some ⟨g', 0, none⟩) (pre.length + 1) cap')) (.inr (hv1.not_row (by decide) hown').symm)
      simpa using h3
  case done =>
    rintro D ys W hD rfl ⟨⟨v, hv, hrow, _⟩, hB, _⟩ hK
    have hc := hv.cell
    gi_wp2
    refine ⟨by simp, .inl ⟨_, _, rfl, run_takeDeferred hK, ?_⟩⟩
    exact ⟨_, results_tmp rfl _ _ _, v, l', rfl, hW', hb', ownsRow_putObj (own_weaken hrow hB0.size) _ hK rfl, hB.trans (belowK_b (w := w) (Nat.le_refl _) W D _ _ (by have := hB0.size; omega) hK rfl rfl)⟩
  case stop =>
    rintro D c pre W _ _ h _
    exact h.elim
end Go.Proofs.Ytfkmngmnnlgjdaa.Gr

/- Near and New of a graph. -/
namespace Go.Proofs.Ytfkmngmnnlgjdaa.Gr
open Go Go.RowKit Go.Proofs.Ytfkmngmnnlgjdaa.Gf Go.Proofs.Ytfkmngmnnlgjdaa.Pu Go.Proofs.YtfkmngmnnlgjdaaW.PrintWords Go.Proofs.YtfkmngmnnlgjdaaW.PrintLast Go.Proofs.YtfkmngmnnlgjdaaW.PrintMore
set_option linter.unusedVariables false

/-- The neighbours that Near tells. -/
def nearI (n : Nat) (adj : Adj) (a : Int) : List Int := if isN n a then nats (near n adj a.toNat) else []
theorem R_ints {w : World} {base : Nat} {v : Value} {xs : List Int} (h : w.ownsRow base 3 1 v xs.length (xs.map (Value.int .i64))) : (Kd.int .i64).R 3 w base (fun _ => True) v xs := Kd.R_of_own h (fun _ _ => trivial)
set_option maxHeartbeats 400000 in
theorem Near_is (w : World) (g : Nat) (v : Value) (n : Nat) (adj : Adj) (a : Int) (h : GIs w g v n adj) :
    Calls Try.prog 19 #[.pointer (some ⟨g, 0, none⟩), .int .i64 a] w fun e w' => ∃ v', e = .returned v' ∧ (Kd.int .i64).R 3 w' w.heap.size (fun _ => True) v' (nearI n adj a) ∧ Below w.heap.size w w' := by
  by_cases hn : isN n a = true
  · have hn2 := hn
    simp only [isN, Bool.and_eq_true, decide_eq_true_eq] at hn2
    obtain ⟨ha0, ha1⟩ := hn2
    obtain ⟨m, rfl⟩ := Int.eq_ofNat_of_zero_le ha0
    have ha2 : m < n := by omega
    have hS := h.sane
    obtain ⟨A, c, rfl, hc, hcell⟩ := h.head
    obtain ⟨ad, B, cB, l, rfl, hrow, hlc, hC, hW, hl64, hbit⟩ := h.row ha2
    have hr : nearI n adj (m : Int) = nats (near n adj m) := by unfold nearI; rw [if_pos hn, Int.toNat_natCast]
    have HR := Lib.hid hr
    have HN := Lib.hid hn
    have HC := Lib.hid hC
    have H := Lib.hid h
    have HBit := Lib.hid hbit
    clear hr hn hC h hbit
    go_enter Try.func19, Try.ntmps19
    go_wp2_with (first | (go_at_call 32; refine (is_is w g _ n adj _ H.out).mono ?_; rintro e w' ⟨rfl, rfl⟩; rw [HN.out]) | (go_at_call 35; refine (List_own w B cB l hW hl64 hlc HC.out).mono ?_; rintro e w1 ⟨v1, l', rfl, hW', hb', ho, hB⟩))
    go_ret
    refine ⟨_, rfl, ?_, hB⟩
    have he : elems l' (64 * l'.length) = nearI n adj (m : Int) := by
      rw [HR.out]
      exact elems_all (fun i => by rw [hb', HBit.out]) (fun i hi => hS.lt2 hi)
    rw [← he]
    exact R_ints ho
  · have hn' : isN n a = false := by simpa using hn
    have hr : nearI n adj a = [] := by unfold nearI; rw [if_neg hn]
    have HR := Lib.hid hr
    have HN := Lib.hid hn'
    have H := Lib.hid h
    clear hr hn hn' h
    go_enter Try.func19, Try.ntmps19
    go_wp2_with (first | (go_at_call 32; refine (is_is w g _ n adj _ H.out).mono ?_; rintro e w' ⟨rfl, rfl⟩; rw [HN.out]))
    go_ret
    exact ⟨_, rfl, by rw [HR.out]; exact Kd.R_nil _ _ _ _ _, Below.refl _ _⟩
set_option maxHeartbeats 400000 in
theorem Near_nil (w : World) (a : Int) : Calls Try.prog 19 #[.pointer none, .int .i64 a] w fun e w' => e = .returned (.slice none 0 0) ∧ w = w' := by
  go_enter Try.func19, Try.ntmps19
  go_wp2_with (first | (go_at_call 32; refine (is_nil w a).mono ?_; rintro e w' ⟨rfl, rfl⟩))
  go_ret
  exact ⟨rfl, rfl⟩

theorem infoR : (Try.prog.info? 61).map (fun i => (i.zero, i.size, i.bytes)) = some (some (.slice none 0 0), 1, 24) := by kernel_rfl
set_option maxHeartbeats 400000 in
theorem New_none (w : World) (n : Int) (h : n < 0 ∨ 400 < n) : Calls Try.prog 9 #[.int .i64 n] w fun e w' => e = .returned (.pointer none) ∧ w = w' := by
  by_cases h0 : n < 0
  · clear h
    go_enter Try.func9, Try.ntmps9
    go_wp2
    go_ret
    exact ⟨rfl, rfl⟩
  · have h1 : decide (n < 0) = false := decide_eq_false (by omega)
    have h2 : 400 < n := by omega
    clear h
    go_enter Try.func9, Try.ntmps9
    go_wp2
    go_ret
    exact ⟨rfl, rfl⟩
set_option maxHeartbeats 400000 in
theorem New_is (w : World) (n : Nat) (h : n ≤ 400) : Calls Try.prog 9 #[.int .i64 n] w fun e w' => ∃ b v, e = .returned (.pointer (some ⟨b, 0, none⟩)) ∧ GIs w' b v n (fun _ _ => false) ∧ w.heap.size ≤ b ∧ (∀ k, v.ownBlock = some k → w.heap.size ≤ k) ∧ Below w.heap.size w w' := by
  have h1 : decide ((n : Int) < 0) = false := decide_eq_false (by omega)
  have h2 : decide (400 < (n : Int)) = false := decide_eq_false (by omega)
  go_enter Try.func9, Try.ntmps9
  go_wp2_with (first | ((with_reducible refine gate_dst (N := 10) rfl ?_); refine Kd.R_make (Kd.slice 71 (Kd.int .u64)) w.heap.size 61 rfl (N := 10) rfl 55 _ _ rfl (n : Int) rfl rfl Try.underlying55 (.slice none 0 0) 24 infoR rfl (by decide) (by omega) [] (ok := fun _ => True) (okp := fun _ => True) ⟨_, rfl, Kd.R_nil _ _ _ _ _⟩ (fun _ hk => hk) trivial (by omega) (by omega) (Below.refl _ _) (Nat.le_refl _) ?_; intro v1 w1 ho hb hg hnew; obtain ⟨A', c', rfl⟩ := Kd.R_slice ho))
  go_ret
  simp only [Int.toNat_natCast, List.length_replicate] at ho
  refine ⟨w1.heap.size, .slice A' n c', rfl, ⟨Boxed.new w1 57 _, List.replicate n [], Kd.R_lower (Kd.R_below ho (below_alloc (Below.refl _ _) _)) (Nat.zero_le _), by simp, h, sane_none n, fun a ha => ?_⟩, hb.size, fun k hk => ?_, below_alloc hb _⟩
  · have e : (List.replicate n ([] : List Int)).getD a [] = [] := by rw [List.getD_eq_getElem?_getD, List.getElem?_replicate, if_pos ha]; rfl
    rw [e]
    exact ⟨Wd.nil, Nat.zero_le _, fun i => bitAt_ge (by simp)⟩
  · obtain ⟨inner, hown⟩ := Kd.R_own ho
    exact own_base hown k hk
end Go.Proofs.Ytfkmngmnnlgjdaa.Gr

/- Join of a graph: the two rows, each with one number more, are stored in either order. -/
namespace Go.Proofs.Ytfkmngmnnlgjdaa.Gr
open Go Go.RowKit Go.Proofs.Ytfkmngmnnlgjdaa.Gf Go.Proofs.Ytfkmngmnnlgjdaa.Pu Go.Proofs.YtfkmngmnnlgjdaaW.PrintWords Go.Proofs.YtfkmngmnnlgjdaaW.PrintLast Go.Proofs.YtfkmngmnnlgjdaaW.PrintMore
set_option linter.unusedVariables false

/-- A row of one's own that holds a set with i put in. -/
structure Plus (W : World) (v : Value) (l : List Int) (i : Nat) (r : List Int) : Prop where
  own : (Kd.int .u64).R 71 W 0 (fun _ => True) v r
  wd : Wd r
  len : r.length ≤ 64
  bit : ∀ j, bitAt r j = (bitAt l j || j == i)
theorem Plus.below {W W' : World} {v : Value} {l r : List Int} {i : Nat} (h : Plus W v l i r) (hb : Below W.heap.size W W') : Plus W' v l i r := ⟨Kd.R_below h.own hb, h.wd, h.len, h.bit⟩
theorem With_any (W : World) (B : Option Addr) (c : Nat) (l : List Int) (i : Nat) (hi : i < 4096) (hW : Wd l) (hl : l.length ≤ 64) (hc : l.length ≤ c) (hC : (Kd.int .u64).C W B l.length l) :
    Calls Try.prog 33 #[.slice B l.length c, .int .i64 i] W fun e w' => ∃ v r, e = .returned v ∧ Plus w' v l i r ∧ Below W.heap.size W w' := by
  obtain ⟨r, h1, h2, h3, h4⟩ := with_f hW hl hi
  obtain ⟨k, hk⟩ := h1.rounds
  exact (bits_With.calls k B c l i r W hC hc hk).mono fun e w' ⟨v, he, hR, hB⟩ => ⟨v, r, he, ⟨Kd.R_lower hR (Nat.zero_le _), h2, h3, h4⟩, hB⟩

/-- One row's header is stored. -/
theorem row_set {W : World} {ga n c i : Nat} {rows : List (List Int)} {v : Value} {r : List Int} (HO : Kd.R (Kd.slice 71 (Kd.int .u64)) 61 W 0 (fun _ => True) (.slice (some ⟨ga, 0, none⟩) n c) rows) (hi : i < n)
    (hv : (Kd.int .u64).R 71 W 0 (fun _ => True) v r) :
    Kd.R (Kd.slice 71 (Kd.int .u64)) 61 (W.setCell ⟨ga, i, none⟩ v) 0 (fun _ => True) (.slice (some ⟨ga, 0, none⟩) n c) (rows.set i r) ∧ W.grownBy (W.setCell ⟨ga, i, none⟩ v) (some ga) := by
  obtain ⟨A', c', he, hl, hC⟩ := Kd.R_reads HO
  injection he with e1 e2 e3
  obtain ⟨ad, cs, e, _, hK, hc0⟩ := Kd.C_get hC ([] : List Int) (i : Int) (by omega) (by omega)
  rw [← e1] at e
  injection e with e
  subst e
  obtain ⟨B, cB, rfl, l0, g0⟩ := hK
  obtain ⟨inner, ho⟩ := Kd.R_own HO
  obtain ⟨cells, hcells⟩ := own_typed ho ga (by simp [Value.ownBlock])
  have hv2 := Kd.R_types hv hcells (by decide)
  have := Kd.R_seg (d := Kd.slice 71 (Kd.int .u64)) (okp := fun k => True ∧ k ≠ ga) HO (i : Int) (by omega) (by omega) (c := [_]) (seg := [v]) (j := 0) rfl (fun j u hu => by
      have := hc0 j u hu
      rw [add_plain] at this
      exact this) (by show 0 + 1 ≤ 1; omega) (x' := r) ⟨v, rfl, hv2⟩ (fun k hk => hk)
  simpa [World.setCells, Kd.slice] using this

theorem getD_set2 (l : List (List Int)) (j i : Nat) (x : List Int) (hj : j < l.length) : (l.set j x).getD i [] = if j = i then x else l.getD i [] := by
  rw [List.getD_eq_getElem?_getD, List.getElem?_set, List.getD_eq_getElem?_getD]
  by_cases h : j = i
  · subst h; simp [hj]
  · simp [h]
/-- The graph behind both stores. -/
theorem GIs.join {W : World} {g ga n c a b : Nat} {adj : Adj} {la lb ra rb : List Int} {va vb : Value} (h : GIs W g (.slice (some ⟨ga, 0, none⟩) n c) n adj) (ha : a < n) (hb : b < n) (hab : a ≠ b) (hla : ∀ i, bitAt la i = adj a i) (hlb : ∀ i, bitAt lb i = adj b i)
    (hva : Plus W va la b ra) (hvb : Plus W vb lb a rb) : GIs ((W.setCell ⟨ga, a, none⟩ va).setCell ⟨ga, b, none⟩ vb) g (.slice (some ⟨ga, 0, none⟩) n c) n (put adj a b) ∧ W.grownBy ((W.setCell ⟨ga, a, none⟩ va).setCell ⟨ga, b, none⟩ vb) (some ga) := by
  obtain ⟨h1, rows, h2, h3, h4, hS, h5⟩ := h
  obtain ⟨inner, ho⟩ := Kd.R_own h2
  obtain ⟨cells, hcells⟩ := own_typed ho ga (by simp [Value.ownBlock])
  have hne : g ≠ ga := by
    rintro rfl
    rw [h1] at hcells
    injection hcells with hcells
    injection hcells with _ hcells
    exact absurd hcells (by decide)
  obtain ⟨k1, g1⟩ := row_set h2 ha hva.own
  have hvb2 : (Kd.int .u64).R 71 (W.setCell ⟨ga, a, none⟩ va) 0 (fun _ => True) vb rb := Kd.R_mono (Kd.R_far (p := ⟨ga, a, none⟩) (Kd.R_types hvb.own hcells (by decide)) (fun _ hk => hk.2) va) (fun _ _ => trivial)
  obtain ⟨k2, g2⟩ := row_set k1 hb hvb2
  refine ⟨⟨?_, (rows.set a ra).set b rb, k2, by simpa using h3, h4, hS.put ha hb hab, fun x hx => ?_⟩, g1.trans g2⟩
  · exact (Below.heap_setCell _ ⟨ga, b, none⟩ _ g hne).trans ((Below.heap_setCell _ ⟨ga, a, none⟩ _ g hne).trans h1)
  · rw [getD_set2 _ _ _ _ (by simp; omega), getD_set2 _ _ _ _ (by omega)]
    by_cases hxb : b = x
    · subst hxb
      rw [if_pos rfl]
      refine ⟨hvb.wd, hvb.len, fun i => ?_⟩
      rw [hvb.bit, hlb]
      unfold Pu.put
      have e1 : (b == a) = false := by rw [beq_eq_false_iff_ne]; omega
      simp [e1]
    · rw [if_neg hxb]
      by_cases hxa : a = x
      · subst hxa
        rw [if_pos rfl]
        refine ⟨hva.wd, hva.len, fun i => ?_⟩
        rw [hva.bit, hla]
        unfold Pu.put
        have e1 : (a == b) = false := by rw [beq_eq_false_iff_ne]; omega
        simp [e1]
      · rw [if_neg hxa]
        obtain ⟨m1, m2, m3⟩ := h5 x hx
        refine ⟨m1, m2, fun i => ?_⟩
        rw [m3]
        unfold Pu.put
        have e1 : (x == a) = false := by rw [beq_eq_false_iff_ne]; omega
        have e2 : (x == b) = false := by rw [beq_eq_false_iff_ne]; omega
        simp [e1, e2]
theorem put_comm (adj : Adj) (a b : Nat) : put adj b a = put adj a b := by
  funext x y
  unfold Pu.put
  cases adj x y <;> cases x == a <;> cases y == b <;> cases x == b <;> cases y == a <;> rfl
end Go.Proofs.Ytfkmngmnnlgjdaa.Gr

/- The walk of Join. -/
namespace Go.Proofs.Ytfkmngmnnlgjdaa.Gr
open Go Go.RowKit Go.Proofs.Ytfkmngmnnlgjdaa.Gf Go.Proofs.Ytfkmngmnnlgjdaa.Pu Go.Proofs.YtfkmngmnnlgjdaaW.PrintWords Go.Proofs.YtfkmngmnnlgjdaaW.PrintLast Go.Proofs.YtfkmngmnnlgjdaaW.PrintMore
set_option linter.unusedVariables false
set_option linter.unusedSimpArgs false

-- TABLE
def JoinR.T3 : Bool × List (List Nat × List Nat) := (true, [([], []), ([0], [0]), ([1], [1]), ([2], [2]), ([], []), ([], []), ([5], [5]), ([6], [6]), ([7], [7]), ([], []), ([], []), ([10], [10]), ([11], [11]), ([12], [12]), ([], []), ([13, 14], [13, 14]), ([15], [15]), ([], []), ([16, 17], [16, 17]), ([], []), ([19], [19]), ([20], [20]), ([21], [21]), ([], []), ([22, 23], [22, 23]), ([24], [24]), ([], []), ([25, 26, 18], [25, 26]), ([3, 4, 0, 1, 2, 3, 4, 8, 10, 11, 12, 13, 14, 15, 16, 17, 18, 22, 25, 27], [3, 4]), ([28, 18, 27, 0, 1, 2, 3, 4, 8, 10, 11, 12, 13, 14, 15, 16, 17, 18, 22, 25, 27], [18, 28]), ([8, 9, 0, 1, 2, 3, 4, 5, 6, 7, 8, 9, 10, 11, 12, 13, 14, 15, 16, 17, 18, 19, 20, 21, 22, 23, 24, 25, 26, 27, 28, 29], [8, 9]), ([30, 27, 29, 0, 1, 2, 3, 4, 5, 6, 7, 8, 9, 10, 11, 12, 13, 14, 15, 16, 17, 18, 19, 20, 21, 22, 23, 24, 25, 26, 27, 28, 29], [27, 30])])
def JoinR.B3 : List Nat := [0, 1, 3, 7, 0, 0, 32, 96, 224, 0, 0, 1024, 3072, 7168, 0, 31744, 64512, 0, 261120, 0, 524288, 1572864, 3670016, 0, 16252928, 33030144, 0, 134216704, 268434943, 536870399, 1073741823, 2147483647]
theorem JoinR.tab3 : rtab .any (opsOf Try.f14 3) = JoinR.T3 := by kernel_rfl
theorem JoinR.bits3 : waitsOk JoinR.T3.2 JoinR.B3 = true := by kernel_rfl
-- END TABLE
/-- What the region knows of a world: what lay when Join was called lies as it lay. -/
def JB (w W : World) : Prop := Below w.heap.size w W
theorem JB.facts {w W : World} (h : JB w W) {a0 a1 a2 : Addr} {v0 v1 v2 : Value} (h0 : w.cell? a0 = some v0) (h1 : w.cell? a1 = some v1) (h2 : w.cell? a2 = some v2) (f1 : w.frozen? a1 = false) (f2 : w.frozen? a2 = false) :
    (W.cell? a0 = some v0 ∧ W.cell? a1 = some v1 ∧ W.cell? a2 = some v2) ∧ W.frozen? a1 = false ∧ W.frozen? a2 = false :=
  ⟨⟨(Below.cell h (World.block_lt_of_cell? w _ h0)).trans h0, (Below.cell h (World.block_lt_of_cell? w _ h1)).trans h1, (Below.cell h (World.block_lt_of_cell? w _ h2)).trans h2⟩, (Below.frozen h (World.block_lt_of_cell? w _ h1)).trans f1, (Below.frozen h (World.block_lt_of_cell? w _ h2)).trans f2⟩
theorem WithJ (w W : World) (hJ : JB w W) (B : Option Addr) (c : Nat) (l : List Int) (i : Nat) (hi : i < 4096) (hW : Wd l) (hl : l.length ≤ 64) (hc : l.length ≤ c) (hC : (Kd.int .u64).C w B l.length l) :
    Calls Try.prog 33 #[.slice B l.length c, .int .i64 i] W fun e w' => ∃ v r, e = .returned v ∧ Plus w' v l i r ∧ JB w w' ∧ Below W.heap.size W w' :=
  (With_any W B c l i hi hW hl hc (Kd.C_below hC hJ)).mono fun e w' ⟨v, r, he, hP, hB⟩ => ⟨v, r, he, hP, below_then hJ (Below.size hJ) hB, hB⟩

set_option maxRecDepth 100000 in
set_option maxHeartbeats 4000000 in
theorem Join_yes (w : World) (g ga n c : Nat) (adj : Adj) (a b : Nat) (h : GIs w g (.slice (some ⟨ga, 0, none⟩) n c) n adj) (ha : a < n) (hb : b < n) (hab : a ≠ b) (hj : adj a b = false) :
    Calls Try.prog 14 #[.pointer (some ⟨g, 0, none⟩), .int .i64 a, .int .i64 b] w fun e w' => e = .returned (.bool true) ∧ GIs w' g (.slice (some ⟨ga, 0, none⟩) n c) n (put adj a b) ∧ w.grownBy w' (some ga) := by
  have hn4 := h.le
  obtain ⟨A1, c1, he1, hcap, hcell⟩ := h.head
  injection he1 with e1 _ e3
  subst e1 e3
  obtain ⟨ad, Ba, ca, la, e, hca, hlca, hCa, hWa, hla, hba⟩ := h.row ha
  injection e with e
  subst e
  obtain ⟨ad, Bb, cb, lb, e, hcb, hlcb, hCb, hWb, hlb, hbb⟩ := h.row hb
  injection e with e
  subst e
  rw [add_plain] at hca hcb
  have l0 := h.lt
  have l1 : ga < w.heap.size := World.block_lt_of_cell? w _ hca
  have hisa : isN n (a : Int) = true := by simp [isN]; omega
  have hisb : isN n (b : Int) = true := by simp [isN]; omega
  have hhas : hasN n adj (a : Int) (b : Int) = false := by unfold hasN; rw [Int.toNat_natCast, Int.toNat_natCast, hj]; simp
  have heq : ((a : Int) == (b : Int)) = false := by rw [beq_eq_false_iff_ne]; omega
  have hfz : w.frozen? ⟨ga, a, none⟩ = false ∧ w.frozen? ⟨ga, b, none⟩ = false := by
    obtain ⟨_, rows, h2, _⟩ := id h
    obtain ⟨inner, ho⟩ := Kd.R_own h2
    obtain ⟨cells, hcells⟩ := own_typed ho ga (by simp [Value.ownBlock])
    exact ⟨by simp [World.frozen?, hcells], by simp [World.frozen?, hcells]⟩
  have H := Lib.hid h
  have HA := Lib.hid hisa
  have HB := Lib.hid hisb
  have HH := Lib.hid hhas
  have HCa := Lib.hid hCa
  have HCb := Lib.hid hCb
  clear h hisa hisb hhas hCa hCb hj
  have hia0 : (0 : Int) ≤ (a : Int) := by omega
  have hia1 : (a : Int) < (n : Int) := by omega
  have hib0 : (0 : Int) ≤ (b : Int) := by omega
  have hib1 : (b : Int) < (n : Int) := by omega
  go_enter Try.func14, Try.ntmps14
  go_wp2_with (first | (go_at_call 32; (first | (with_reducible refine (is_is w g _ n adj (a : Int) H.out).mono ?_; rintro e w' ⟨rfl, rfl⟩; rw [HA.out]) | (with_reducible refine (is_is w g _ n adj (b : Int) H.out).mono ?_; rintro e w' ⟨rfl, rfl⟩; rw [HB.out]))) | (go_at_call 16; refine (Has_is w g _ n adj _ _ H.out (by omega) (by omega)).mono ?_; rintro e w' ⟨rfl, ⟨nd, rfl⟩⟩; rw [HH.out]))
  obtain ⟨w0, hw0⟩ : ∃ w0, w.drewN nd = w0 := ⟨_, rfl⟩
  rw [hw0]
  have J0 : JB w w0.drew := below_drew (by rw [← hw0]; exact pw_below_drewN (Below.refl _ _) nd)
  clear hw0
  obtain ⟨hfa, hfb⟩ := hfz
  obtain ⟨⟨k0, k1, k2⟩, m1, m2⟩ := JB.facts J0 hcell hca hcb hfa hfb
  have HFA := Lib.hid (show ∀ W, JB w W → _ from fun W hJ => JB.facts hJ hcell hca hcb hfa hfb)
  clear hcell hca hcb hfa hfb
  have hne : ((⟨ga, a, none⟩ : Addr) = ⟨ga, b, none⟩) = False := by first | (simp; done) | (simp; omega)
  -- REGION
  refine start_ (n := 32) (S := (fun w' => w'.cell? ⟨g, 0, none⟩ = some (.slice (some ⟨ga, 0, none⟩) n c) ∧ w'.cell? ⟨ga, a, none⟩ = some (.slice Ba la.length ca) ∧ w'.cell? ⟨ga, b, none⟩ = some (.slice Bb lb.length cb))) (ds := [29, 31]) #[false, false, false, false, false, false, false, false, false, false, false, false, false, false, false, false, false, false, false, false, false, false, false, false, false, false, false, false, false, false, false, false] (by kernel_rfl) rfl rfl ⟨k0, k1, k2⟩ (fun hHeld => ?_); refine with_tabW JoinR.tab3 JoinR.bits3 (fun HT_ HW_ => ?_)
  generalize w0.drew = wx at J0 k0 k1 k2 m1 m2 hHeld ⊢
  refine pure_ (i := 0) (N := some 28) (v := ?_) (a' := ?_) #[true, false, false, false, false, false, false, false, false, false, false, false, false, false, false, false, false, false, false, false, false, false, false, false, false, false, false, false, false, false, false, false] rfl rfl (any_of HT_.out (by kernel_rfl)) (fun _ _ _ h => h) (Or.inl ⟨by rfl, ?_⟩) ?_ ?_
  rotate_left
  · intro w'
    go_simp
    with_reducible rfl
  rotate_left
  · simp only [Act.put, List.setIfInBounds_toArray, List.set_cons_zero, List.set_cons_succ, i64_w, i32_w]
    rfl
  refine pure_ (i := 1) (N := some 29) (v := ?_) (a' := ?_) #[true, true, false, false, false, false, false, false, false, false, false, false, false, false, false, false, false, false, false, false, false, false, false, false, false, false, false, false, false, false, false, false] rfl rfl (any_of HT_.out (by kernel_rfl)) (fun _ _ _ h => h) (Or.inl ⟨by rfl, ?_⟩) ?_ ?_
  rotate_left
  · intro w'
    go_simp
    with_reducible rfl
  rotate_left
  · simp only [Act.put, List.setIfInBounds_toArray, List.set_cons_zero, List.set_cons_succ, i64_w, i32_w]
    rfl
  refine pure_ (i := 2) (N := some 30) (v := ?_) (a' := ?_) #[true, true, true, false, false, false, false, false, false, false, false, false, false, false, false, false, false, false, false, false, false, false, false, false, false, false, false, false, false, false, false, false] rfl rfl (any_of HT_.out (by kernel_rfl)) (fun _ _ _ h => h) (Or.inl ⟨by rfl, ?_⟩) ?_ ?_
  rotate_left
  · intro w'
    go_simp
    with_reducible rfl
  rotate_left
  · simp only [Act.put, List.setIfInBounds_toArray, List.set_cons_zero, List.set_cons_succ, i64_w, i32_w]
    rfl
  refine take_ (i := 3) (N := some 31) (v := ?_) (a' := ?_) #[true, true, true, true, false, false, false, false, false, false, false, false, false, false, false, false, false, false, false, false, false, false, false, false, false, false, false, false, false, false, false, false] rfl rfl (take_ofW HT_.out HW_.out (by kernel_rfl)) (fun _ _ _ h => h) (Or.inl ⟨by rfl, ?_⟩) hHeld ?_ ?_
  rotate_left
  · intro w' s0
    (obtain ⟨s0, s1, s2⟩ := s0)
    go_simp
    with_reducible rfl
  rotate_left
  · simp only [Act.put, List.setIfInBounds_toArray, List.set_cons_zero, List.set_cons_succ, i64_w, i32_w]
    rfl
  refine pure_ (i := 4) (N := some 32) (v := ?_) (a' := ?_) #[true, true, true, true, true, false, false, false, false, false, false, false, false, false, false, false, false, false, false, false, false, false, false, false, false, false, false, false, false, false, false, false] rfl rfl (any_of HT_.out (by kernel_rfl)) (fun _ _ _ h => h) (Or.inl ⟨by rfl, ?_⟩) ?_ ?_
  rotate_left
  · intro w'
    go_simp
    with_reducible rfl
  rotate_left
  · simp only [Act.put, List.setIfInBounds_toArray, List.set_cons_zero, List.set_cons_succ, i64_w, i32_w]
    rfl
  refine pure_ (i := 5) (N := some 33) (v := ?_) (a' := ?_) #[true, true, true, true, true, true, false, false, false, false, false, false, false, false, false, false, false, false, false, false, false, false, false, false, false, false, false, false, false, false, false, false] rfl rfl (any_of HT_.out (by kernel_rfl)) (fun _ _ _ h => h) (Or.inl ⟨by rfl, ?_⟩) ?_ ?_
  rotate_left
  · intro w'
    go_simp
    with_reducible rfl
  rotate_left
  · simp only [Act.put, List.setIfInBounds_toArray, List.set_cons_zero, List.set_cons_succ, i64_w, i32_w]
    rfl
  refine pure_ (i := 6) (N := some 34) (v := ?_) (a' := ?_) #[true, true, true, true, true, true, true, false, false, false, false, false, false, false, false, false, false, false, false, false, false, false, false, false, false, false, false, false, false, false, false, false] rfl rfl (any_of HT_.out (by kernel_rfl)) (fun _ _ _ h => h) (Or.inl ⟨by rfl, ?_⟩) ?_ ?_
  rotate_left
  · intro w'
    go_simp
    with_reducible rfl
  rotate_left
  · simp only [Act.put, List.setIfInBounds_toArray, List.set_cons_zero, List.set_cons_succ, i64_w, i32_w]
    rfl
  refine pure_ (i := 7) (N := some 35) (v := ?_) (a' := ?_) #[true, true, true, true, true, true, true, true, false, false, false, false, false, false, false, false, false, false, false, false, false, false, false, false, false, false, false, false, false, false, false, false] rfl rfl (any_of HT_.out (by kernel_rfl)) (fun _ _ _ h => h) (Or.inl ⟨by rfl, ?_⟩) ?_ ?_
  rotate_left
  · intro w'
    go_simp
    with_reducible rfl
  rotate_left
  · simp only [Act.put, List.setIfInBounds_toArray, List.set_cons_zero, List.set_cons_succ, i64_w, i32_w]
    rfl
  refine take_ (i := 8) (N := some 36) (v := ?_) (a' := ?_) #[true, true, true, true, true, true, true, true, true, false, false, false, false, false, false, false, false, false, false, false, false, false, false, false, false, false, false, false, false, false, false, false] rfl rfl (take_ofW HT_.out HW_.out (by kernel_rfl)) (fun _ _ _ h => h) (Or.inl ⟨by rfl, ?_⟩) hHeld ?_ ?_
  rotate_left
  · intro w' s0
    (obtain ⟨s0, s1, s2⟩ := s0)
    go_simp
    with_reducible rfl
  rotate_left
  · simp only [Act.put, List.setIfInBounds_toArray, List.set_cons_zero, List.set_cons_succ, i64_w, i32_w]
    rfl
  refine pure_ (i := 9) (N := some 37) (v := ?_) (a' := ?_) #[true, true, true, true, true, true, true, true, true, true, false, false, false, false, false, false, false, false, false, false, false, false, false, false, false, false, false, false, false, false, false, false] rfl rfl (any_of HT_.out (by kernel_rfl)) (fun _ _ _ h => h) (Or.inl ⟨by rfl, ?_⟩) ?_ ?_
  rotate_left
  · intro w'
    go_simp
    with_reducible rfl
  rotate_left
  · simp only [Act.put, List.setIfInBounds_toArray, List.set_cons_zero, List.set_cons_succ, i64_w, i32_w]
    rfl
  refine pure_ (i := 10) (N := some 38) (v := ?_) (a' := ?_) #[true, true, true, true, true, true, true, true, true, true, true, false, false, false, false, false, false, false, false, false, false, false, false, false, false, false, false, false, false, false, false, false] rfl rfl (any_of HT_.out (by kernel_rfl)) (fun _ _ _ h => h) (Or.inl ⟨by rfl, ?_⟩) ?_ ?_
  rotate_left
  · intro w'
    go_simp
    with_reducible rfl
  rotate_left
  · simp only [Act.put, List.setIfInBounds_toArray, List.set_cons_zero, List.set_cons_succ, i64_w, i32_w]
    rfl
  refine pure_ (i := 11) (N := some 39) (v := ?_) (a' := ?_) #[true, true, true, true, true, true, true, true, true, true, true, true, false, false, false, false, false, false, false, false, false, false, false, false, false, false, false, false, false, false, false, false] rfl rfl (any_of HT_.out (by kernel_rfl)) (fun _ _ _ h => h) (Or.inl ⟨by rfl, ?_⟩) ?_ ?_
  rotate_left
  · intro w'
    go_simp
    with_reducible rfl
  rotate_left
  · simp only [Act.put, List.setIfInBounds_toArray, List.set_cons_zero, List.set_cons_succ, i64_w, i32_w]
    rfl
  refine pure_ (i := 12) (N := some 40) (v := ?_) (a' := ?_) #[true, true, true, true, true, true, true, true, true, true, true, true, true, false, false, false, false, false, false, false, false, false, false, false, false, false, false, false, false, false, false, false] rfl rfl (any_of HT_.out (by kernel_rfl)) (fun _ _ _ h => h) (Or.inl ⟨by rfl, ?_⟩) ?_ ?_
  rotate_left
  · intro w'
    go_simp
    with_reducible rfl
  rotate_left
  · simp only [Act.put, List.setIfInBounds_toArray, List.set_cons_zero, List.set_cons_succ, i64_w, i32_w]
    rfl
  refine take_ (i := 13) (N := some 41) (v := ?_) (a' := ?_) #[true, true, true, true, true, true, true, true, true, true, true, true, true, true, false, false, false, false, false, false, false, false, false, false, false, false, false, false, false, false, false, false] rfl rfl (take_ofW HT_.out HW_.out (by kernel_rfl)) (fun _ _ _ h => h) (Or.inl ⟨by rfl, ?_⟩) hHeld ?_ ?_
  rotate_left
  · intro w' s0
    (obtain ⟨s0, s1, s2⟩ := s0)
    go_simp
    with_reducible rfl
  rotate_left
  · simp only [Act.put, List.setIfInBounds_toArray, List.set_cons_zero, List.set_cons_succ, i64_w, i32_w]
    rfl
  refine pure_ (i := 14) (N := some 42) (v := ?_) (a' := ?_) #[true, true, true, true, true, true, true, true, true, true, true, true, true, true, true, false, false, false, false, false, false, false, false, false, false, false, false, false, false, false, false, false] rfl rfl (any_of HT_.out (by kernel_rfl)) (fun _ _ _ h => h) (Or.inl ⟨by rfl, ?_⟩) ?_ ?_
  rotate_left
  · intro w'
    go_simp
    with_reducible rfl
  rotate_left
  · simp only [Act.put, List.setIfInBounds_toArray, List.set_cons_zero, List.set_cons_succ, i64_w, i32_w]
    rfl
  refine pure_ (i := 15) (N := some 43) (v := ?_) (a' := ?_) #[true, true, true, true, true, true, true, true, true, true, true, true, true, true, true, true, false, false, false, false, false, false, false, false, false, false, false, false, false, false, false, false] rfl rfl (any_of HT_.out (by kernel_rfl)) (fun _ _ _ h => h) (Or.inl ⟨by rfl, ?_⟩) ?_ ?_
  rotate_left
  · intro w'
    go_simp
    with_reducible rfl
  rotate_left
  · simp only [Act.put, List.setIfInBounds_toArray, List.set_cons_zero, List.set_cons_succ, i64_w, i32_w]
    rfl
  refine take_ (i := 16) (N := some 44) (v := ?_) (a' := ?_) #[true, true, true, true, true, true, true, true, true, true, true, true, true, true, true, true, true, false, false, false, false, false, false, false, false, false, false, false, false, false, false, false] rfl rfl (take_ofW HT_.out HW_.out (by kernel_rfl)) (fun _ _ _ h => h) (Or.inl ⟨by rfl, ?_⟩) hHeld ?_ ?_
  rotate_left
  · intro w' s0
    (obtain ⟨s0, s1, s2⟩ := s0)
    go_simp
    with_reducible rfl
  rotate_left
  · simp only [Act.put, List.setIfInBounds_toArray, List.set_cons_zero, List.set_cons_succ, i64_w, i32_w]
    rfl
  refine pure_ (i := 17) (N := some 45) (v := ?_) (a' := ?_) #[true, true, true, true, true, true, true, true, true, true, true, true, true, true, true, true, true, true, false, false, false, false, false, false, false, false, false, false, false, false, false, false] rfl rfl (any_of HT_.out (by kernel_rfl)) (fun _ _ _ h => h) (Or.inl ⟨by rfl, ?_⟩) ?_ ?_
  rotate_left
  · intro w'
    go_simp
    with_reducible rfl
  rotate_left
  · simp only [Act.put, List.setIfInBounds_toArray, List.set_cons_zero, List.set_cons_succ, i64_w, i32_w]
    rfl
  refine pure_ (i := 19) (N := some 47) (v := ?_) (a' := ?_) #[true, true, true, true, true, true, true, true, true, true, true, true, true, true, true, true, true, true, false, true, false, false, false, false, false, false, false, false, false, false, false, false] rfl rfl (any_of HT_.out (by kernel_rfl)) (fun _ _ _ h => h) (Or.inl ⟨by rfl, ?_⟩) ?_ ?_
  rotate_left
  · intro w'
    go_simp
    with_reducible rfl
  rotate_left
  · simp only [Act.put, List.setIfInBounds_toArray, List.set_cons_zero, List.set_cons_succ, i64_w, i32_w]
    rfl
  refine pure_ (i := 20) (N := some 48) (v := ?_) (a' := ?_) #[true, true, true, true, true, true, true, true, true, true, true, true, true, true, true, true, true, true, false, true, true, false, false, false, false, false, false, false, false, false, false, false] rfl rfl (any_of HT_.out (by kernel_rfl)) (fun _ _ _ h => h) (Or.inl ⟨by rfl, ?_⟩) ?_ ?_
  rotate_left
  · intro w'
    go_simp
    with_reducible rfl
  rotate_left
  · simp only [Act.put, List.setIfInBounds_toArray, List.set_cons_zero, List.set_cons_succ, i64_w, i32_w]
    rfl
  refine pure_ (i := 21) (N := some 49) (v := ?_) (a' := ?_) #[true, true, true, true, true, true, true, true, true, true, true, true, true, true, true, true, true, true, false, true, true, true, false, false, false, false, false, false, false, false, false, false] rfl rfl (any_of HT_.out (by kernel_rfl)) (fun _ _ _ h => h) (Or.inl ⟨by rfl, ?_⟩) ?_ ?_
  rotate_left
  · intro w'
    go_simp
    with_reducible rfl
  rotate_left
  · simp only [Act.put, List.setIfInBounds_toArray, List.set_cons_zero, List.set_cons_succ, i64_w, i32_w]
    rfl
  refine take_ (i := 22) (N := some 50) (v := ?_) (a' := ?_) #[true, true, true, true, true, true, true, true, true, true, true, true, true, true, true, true, true, true, false, true, true, true, true, false, false, false, false, false, false, false, false, false] rfl rfl (take_ofW HT_.out HW_.out (by kernel_rfl)) (fun _ _ _ h => h) (Or.inl ⟨by rfl, ?_⟩) hHeld ?_ ?_
  rotate_left
  · intro w' s0
    (obtain ⟨s0, s1, s2⟩ := s0)
    go_simp
    with_reducible rfl
  rotate_left
  · simp only [Act.put, List.setIfInBounds_toArray, List.set_cons_zero, List.set_cons_succ, i64_w, i32_w]
    rfl
  refine pure_ (i := 23) (N := some 51) (v := ?_) (a' := ?_) #[true, true, true, true, true, true, true, true, true, true, true, true, true, true, true, true, true, true, false, true, true, true, true, true, false, false, false, false, false, false, false, false] rfl rfl (any_of HT_.out (by kernel_rfl)) (fun _ _ _ h => h) (Or.inl ⟨by rfl, ?_⟩) ?_ ?_
  rotate_left
  · intro w'
    go_simp
    with_reducible rfl
  rotate_left
  · simp only [Act.put, List.setIfInBounds_toArray, List.set_cons_zero, List.set_cons_succ, i64_w, i32_w]
    rfl
  refine pure_ (i := 24) (N := some 52) (v := ?_) (a' := ?_) #[true, true, true, true, true, true, true, true, true, true, true, true, true, true, true, true, true, true, false, true, true, true, true, true, true, false, false, false, false, false, false, false] rfl rfl (any_of HT_.out (by kernel_rfl)) (fun _ _ _ h => h) (Or.inl ⟨by rfl, ?_⟩) ?_ ?_
  rotate_left
  · intro w'
    go_simp
    with_reducible rfl
  rotate_left
  · simp only [Act.put, List.setIfInBounds_toArray, List.set_cons_zero, List.set_cons_succ, i64_w, i32_w]
    rfl
  refine take_ (i := 25) (N := some 53) (v := ?_) (a' := ?_) #[true, true, true, true, true, true, true, true, true, true, true, true, true, true, true, true, true, true, false, true, true, true, true, true, true, true, false, false, false, false, false, false] rfl rfl (take_ofW HT_.out HW_.out (by kernel_rfl)) (fun _ _ _ h => h) (Or.inl ⟨by rfl, ?_⟩) hHeld ?_ ?_
  rotate_left
  · intro w' s0
    (obtain ⟨s0, s1, s2⟩ := s0)
    go_simp
    with_reducible rfl
  rotate_left
  · simp only [Act.put, List.setIfInBounds_toArray, List.set_cons_zero, List.set_cons_succ, i64_w, i32_w]
    rfl
  refine pure_ (i := 26) (N := some 54) (v := ?_) (a' := ?_) #[true, true, true, true, true, true, true, true, true, true, true, true, true, true, true, true, true, true, false, true, true, true, true, true, true, true, true, false, false, false, false, false] rfl rfl (any_of HT_.out (by kernel_rfl)) (fun _ _ _ h => h) (Or.inl ⟨by rfl, ?_⟩) ?_ ?_
  rotate_left
  · intro w'
    go_simp
    with_reducible rfl
  rotate_left
  · simp only [Act.put, List.setIfInBounds_toArray, List.set_cons_zero, List.set_cons_succ, i64_w, i32_w]
    rfl
  refine one_ (i := 18) (N := some 46) #[true, true, true, true, true, true, true, true, true, true, true, true, true, true, true, true, true, true, true, true, true, true, true, true, true, true, true, false, false, false, false, false] rfl rfl (one_of HT_.out (by kernel_rfl)) (by decide) (fun K hK => ?_)
  refine goes_ Try.func33 (by kernel_rfl) rfl #[.slice Ba la.length ca, .int .i64 b] (by rfl) rfl rfl (by (try simp only [List.map_toArray, List.map_cons, List.map_nil]); first | done | rfl) ?_
  refine (WithJ w wx J0 Ba ca la b (by omega) hWa hla hlca HCa.out).mono ?_
  rintro e wa ⟨va, ra, rfl, hPa, Ja, hBa⟩
  obtain ⟨Aa, cva, rfl⟩ := Kd.R_slice hPa.own
  obtain ⟨hS1, ma1, ma2⟩ := HFA.out _ Ja
  refine ⟨_, rfl, hK.out _ _ hS1 (fun hHeld => ?_)⟩
  clear hK K
  simp only [Act.put, List.setIfInBounds_toArray, List.set_cons_zero, List.set_cons_succ]
  refine one_ (i := 27) (N := some 55) #[true, true, true, true, true, true, true, true, true, true, true, true, true, true, true, true, true, true, true, true, true, true, true, true, true, true, true, true, false, false, false, false] rfl rfl (one_of HT_.out (by kernel_rfl)) (by decide) (fun K hK => ?_)
  refine goes_ Try.func33 (by kernel_rfl) rfl #[.slice Bb lb.length cb, .int .i64 a] (by rfl) rfl rfl (by (try simp only [List.map_toArray, List.map_cons, List.map_nil]); first | done | rfl) ?_
  refine (WithJ w wa Ja Bb cb lb a (by omega) hWb hlb hlcb HCb.out).mono ?_
  rintro e wb ⟨vb, rb, rfl, hPb, Jb, hBb⟩
  obtain ⟨Ab, cvb, rfl⟩ := Kd.R_slice hPb.own
  obtain ⟨hS2, mb1, mb2⟩ := HFA.out _ Jb
  refine ⟨_, rfl, hK.out _ _ hS2 (fun hHeld => ?_)⟩
  have hPa2 := hPa.below hBb
  obtain ⟨q0, q1, q2⟩ := hS2
  clear hK K
  simp only [Act.put, List.setIfInBounds_toArray, List.set_cons_zero, List.set_cons_succ]
  refine pure_ (i := 28) (N := some 56) (v := ?_) (a' := ?_) #[true, true, true, true, true, true, true, true, true, true, true, true, true, true, true, true, true, true, true, true, true, true, true, true, true, true, true, true, true, false, false, false] rfl rfl (any_of HT_.out (by kernel_rfl)) (fun _ _ _ h => h) (Or.inl ⟨by rfl, ?_⟩) ?_ ?_
  rotate_left
  · intro w'
    go_simp
    with_reducible rfl
  rotate_left
  · simp only [Act.put, List.setIfInBounds_toArray, List.set_cons_zero, List.set_cons_succ, i64_w, i32_w]
    rfl
  refine last_ (i := 29) (N := none) #[true, true, true, true, true, true, true, true, true, true, true, true, true, true, true, true, true, true, true, true, true, true, true, true, true, true, true, true, true, true, false, false] rfl rfl (one_of HT_.out (by kernel_rfl)) (by decide) (fun K hK => ?_)
  refine skip_ (w1 := ?_) (by rfl) rfl ?_ ?_
  rotate_left
  · go_simp
    rfl
  refine hK.out _ _ ?_
  clear hK K
  refine pure_ (i := 30) (N := some 57) (v := ?_) (a' := ?_) #[true, true, true, true, true, true, true, true, true, true, true, true, true, true, true, true, true, true, true, true, true, true, true, true, true, true, true, true, true, true, true, false] rfl rfl (any_of HT_.out (by kernel_rfl)) (fun _ _ _ h => h) (Or.inl ⟨by rfl, ?_⟩) ?_ ?_
  rotate_left
  · intro w'
    go_simp
    with_reducible rfl
  rotate_left
  · simp only [Act.put, List.setIfInBounds_toArray, List.set_cons_zero, List.set_cons_succ, i64_w, i32_w]
    rfl
  refine last_ (i := 31) (N := none) #[true, true, true, true, true, true, true, true, true, true, true, true, true, true, true, true, true, true, true, true, true, true, true, true, true, true, true, true, true, true, true, true] rfl rfl (one_of HT_.out (by kernel_rfl)) (by decide) (fun K hK => ?_)
  refine skip_ (w1 := ?_) (by rfl) rfl ?_ ?_
  rotate_left
  · go_simp
    rfl
  refine hK.out _ _ ?_
  clear hK K
  refine done_ (done_of HT_.out (by kernel_rfl)) ?_
  -- END REGION
  go_wp2
  go_ret
  obtain ⟨hg, hgr⟩ := (H.out.below Jb).join ha hb hab hba hbb hPa2 hPb
  exact ⟨rfl, hg, (grown_of_below Jb (some ga)).trans hgr⟩

/-- May a join be made? -/
def joinOk (n : Nat) (adj : Adj) (a b : Int) : Bool := isN n a && isN n b && !(a == b) && !hasN n adj a b
set_option maxHeartbeats 1000000 in
theorem Join_no (w : World) (g n : Nat) (v : Value) (adj : Adj) (a b : Int) (h : GIs w g v n adj) (hno : joinOk n adj a b = false) :
    Calls Try.prog 14 #[.pointer (some ⟨g, 0, none⟩), .int .i64 a, .int .i64 b] w fun e w' => e = .returned (.bool false) ∧ Drawn0 w w' := by
  cases hna : isN n a with
  | false =>
    have HA := Lib.hid hna
    clear hna hno
    go_enter Try.func14, Try.ntmps14
    go_wp2_with (first | (go_at_call 32; (with_reducible refine (is_is w g _ n adj a h).mono ?_; rintro e w' ⟨rfl, rfl⟩; rw [HA.out])))
    go_ret
    exact ⟨rfl, ⟨⟨0, rfl⟩⟩⟩
  | true =>
    cases hnb : isN n b with
    | false =>
      have HA := Lib.hid hna
      have HB := Lib.hid hnb
      have hab : (a == b) = false := by
        rw [beq_eq_false_iff_ne]
        rintro rfl
        rw [hna] at hnb
        cases hnb
      clear hna hnb hno
      go_enter Try.func14, Try.ntmps14
      go_wp2_with (first | (go_at_call 32; (first | (with_reducible refine (is_is w g _ n adj a h).mono ?_; rintro e w' ⟨rfl, rfl⟩; rw [HA.out]) | (with_reducible refine (is_is w g _ n adj b h).mono ?_; rintro e w' ⟨rfl, rfl⟩; rw [HB.out]))))
      go_ret
      exact ⟨rfl, ⟨⟨0, rfl⟩⟩⟩
    | true =>
      by_cases hab : a = b
      · subst hab
        have HA := Lib.hid hna
        clear hna hnb hno
        go_enter Try.func14, Try.ntmps14
        go_wp2_with (first | (go_at_call 32; (with_reducible refine (is_is w g _ n adj a h).mono ?_; rintro e w' ⟨rfl, rfl⟩; rw [HA.out])))
        go_ret
        exact ⟨rfl, ⟨⟨0, rfl⟩⟩⟩
      · have heq : (a == b) = false := by rw [beq_eq_false_iff_ne]; exact hab
        have hh : hasN n adj a b = true := by
          unfold joinOk at hno
          rw [hna, hnb, heq] at hno
          simpa using hno
        have hb2 := hnb
        simp only [isN, Bool.and_eq_true, decide_eq_true_eq] at hb2
        have hle := h.le
        have HA := Lib.hid hna
        have HB := Lib.hid hnb
        have HH := Lib.hid hh
        clear hna hnb hno hh hab
        obtain ⟨hb3, hb4⟩ := hb2
        go_enter Try.func14, Try.ntmps14
        go_wp2_with (first | (go_at_call 32; (first | (with_reducible refine (is_is w g _ n adj a h).mono ?_; rintro e w' ⟨rfl, rfl⟩; rw [HA.out]) | (with_reducible refine (is_is w g _ n adj b h).mono ?_; rintro e w' ⟨rfl, rfl⟩; rw [HB.out]))) | (go_at_call 16; refine (Has_is w g _ n adj _ _ h (by omega) (by omega)).mono ?_; rintro e w' ⟨rfl, ⟨nd, rfl⟩⟩; rw [HH.out]))
        go_ret
        exact ⟨rfl, ⟨⟨nd, rfl⟩⟩⟩
set_option maxHeartbeats 400000 in
theorem Join_nil (w : World) (a b : Int) : Calls Try.prog 14 #[.pointer none, .int .i64 a, .int .i64 b] w fun e w' => e = .returned (.bool false) ∧ w = w' := by
  by_cases hab : a = b
  · subst hab
    go_enter Try.func14, Try.ntmps14
    go_wp2_with (go_at_call 32; (with_reducible refine (is_nil w a).mono ?_; rintro e w' ⟨rfl, rfl⟩))
    go_ret
    exact ⟨rfl, rfl⟩
  · have heq : (a == b) = false := by rw [beq_eq_false_iff_ne]; exact hab
    go_enter Try.func14, Try.ntmps14
    go_wp2_with (go_at_call 32; (with_reducible refine (is_nil w a).mono ?_; rintro e w' ⟨rfl, rfl⟩))
    go_ret
    exact ⟨rfl, rfl⟩
end Go.Proofs.Ytfkmngmnnlgjdaa.Gr

/- Copy of a graph. -/
namespace Go.Proofs.Ytfkmngmnnlgjdaa.Gr
open Go Go.RowKit Go.Proofs.Ytfkmngmnnlgjdaa.Gf Go.Proofs.Ytfkmngmnnlgjdaa.Pu Go.Proofs.YtfkmngmnnlgjdaaW.PrintWords Go.Proofs.YtfkmngmnnlgjdaaW.PrintLast Go.Proofs.YtfkmngmnnlgjdaaW.PrintMore
set_option linter.unusedVariables false
set_option linter.unusedSimpArgs false

/-- The first k rows. -/
def RowsTo (adj : Adj) (k : Nat) (rows : List (List Int)) : Prop := rows.length = k ∧ ∀ a, a < k → Wd (rows.getD a []) ∧ (rows.getD a []).length ≤ 64 ∧ ∀ i, bitAt (rows.getD a []) i = adj a i
theorem RowsTo.snoc {adj : Adj} {k : Nat} {rows : List (List Int)} {r : List Int} (h : RowsTo adj k rows) (h1 : Wd r) (h2 : r.length ≤ 64) (h3 : ∀ i, bitAt r i = adj k i) : RowsTo adj (k + 1) (rows ++ [r]) := by
  refine ⟨by simp [h.1], fun a ha => ?_⟩
  rw [List.getD_eq_getElem?_getD]
  by_cases hk : a < k
  · rw [List.getElem?_append_left (by rw [h.1]; exact hk), ← List.getD_eq_getElem?_getD]
    exact h.2 a hk
  · obtain rfl : a = k := by omega
    rw [List.getElem?_append_right (by rw [h.1]; exact Nat.le_refl _), h.1]
    simp
    exact ⟨h1, h2, h3⟩
theorem Or_copy (W : World) (B : Option Addr) (c : Nat) (l : List Int) (hW : Wd l) (hl : l.length ≤ 64) (hc : l.length ≤ c) (hC : (Kd.int .u64).C W B l.length l) :
    Calls Try.prog 39 #[.slice B l.length c, .slice none 0 0] W fun e w' => ∃ v r, e = .returned v ∧ (Kd.int .u64).R 71 w' W.heap.size (fun _ => True) v r ∧ Wd r ∧ r.length ≤ 64 ∧ (∀ j, bitAt r j = bitAt l j) ∧ Below W.heap.size W w' := by
  obtain ⟨r, h1, h2, h3, h4⟩ := or_f hW Wd.nil (by omega) (by simp)
  obtain ⟨k, hk⟩ := h1.rounds
  refine (bits_Or.calls k B c l none 0 [] r W hC hc (Kd.C_nil _ _) (Nat.zero_le _) hk).mono ?_
  rintro e w' ⟨v, he, hR, hB⟩
  refine ⟨v, r, he, hR, h2, by simp at h3; omega, fun j => ?_, hB⟩
  rw [h4, bitAt_ge (l := []) (by simp), Bool.or_false]
-- TABLE
def CopyR.T7 : Bool × List (List Nat × List Nat) := (true, [([], []), ([], []), ([1], [1]), ([2], [2]), ([3], [3]), ([], []), ([5], [5]), ([6], [6]), ([4, 7, 6], [4, 7]), ([0, 0, 1, 2, 3, 4, 5, 6, 7, 8], [0]), ([9, 0, 1, 2, 3, 4, 5, 6, 7, 8], [9]), ([10, 8, 8, 0, 1, 2, 3, 4, 5, 6, 7, 8], [8, 10])])
def CopyR.B7 : List Nat := [0, 0, 2, 6, 14, 0, 32, 96, 254, 511, 1023, 2047]
theorem CopyR.tab7 : rtab .any (opsOf Try.f30 7) = CopyR.T7 := by kernel_rfl
theorem CopyR.bits7 : waitsOk CopyR.T7.2 CopyR.B7 = true := by kernel_rfl
-- END TABLE
set_option maxHeartbeats 400000 in
theorem Copy_nil (w : World) : Calls Try.prog 30 #[.pointer none] w fun e w' => e = .returned (.pointer none) ∧ w = w' := by
  go_enter Try.func30, Try.ntmps30
  go_wp2
  go_ret
  exact ⟨rfl, rfl⟩
set_option maxRecDepth 100000 in
set_option maxHeartbeats 4000000 in
theorem Copy_is (w : World) (g n : Nat) (v : Value) (adj : Adj) (h : GIs w g v n adj) :
    Calls Try.prog 30 #[.pointer (some ⟨g, 0, none⟩)] w fun e w' => ∃ b v', e = .returned (.pointer (some ⟨b, 0, none⟩)) ∧ GIs w' b v' n adj ∧ w.heap.size ≤ b ∧ (∀ k, v'.ownBlock = some k → w.heap.size ≤ k) ∧ Below w.heap.size w w' := by
  obtain ⟨A, c, rfl, hc, hcell⟩ := h.head
  have hn4 := h.le
  have hglt := h.lt
  have hS := h.sane
  go_enter Try.func30, Try.ntmps30
  go_wp2
  go_loopw [15] (fun v15 wr => ∃ (k : Nat) (rows : List (List Int)) (vk : Value), k ≤ n ∧ v15 = .int .i64 k ∧ Aside0 (RowsTo adj k rows) ∧ Aside0 (wr.heap[w.heap.size]? = some (.cells #[vk] 57 (0, 0))) ∧
      Aside0 (Kd.R (Kd.slice 71 (Kd.int .u64)) 61 wr w.heap.size (fun _ => True) vk rows) ∧ Aside0 (Below w.heap.size w wr)) (fun v15 _ => n - (intOf v15).toNat)
  case atStart => exact ⟨0, [], .slice none 0 0, Nat.zero_le _, rfl, ⟨rfl, fun a ha => by omega⟩, ⟨World.alloc_heap_new w _⟩, ⟨Kd.R_nil _ _ _ _ _⟩, ⟨below_alloc (Below.refl _ _) _⟩⟩
  case round =>
    obtain ⟨k, rows, vk, hk, rfl, HR, HX, HV, HB⟩ := hrel
    by_cases hlt : k < n
    · obtain ⟨ad, B, cB, l, rfl, hrow, hlc, hC, hW, hl64, hbit⟩ := h.row hlt
      have hrow1 := (HB.out.cell (World.block_lt_of_cell? w _ hrow)).trans hrow
      have hC1 := Kd.C_below hC HB.out
      have hkk : (k : Int) < (n : Int) := by omega
      have hvc : wr.cell? ⟨w.heap.size, 0, none⟩ = some vk := by simp [World.cell?, HX.out]
      have hne := Kd.R_ne HV.out HX.out (by decide)
      have hlen : rows.length = k := HR.out.1
      have HL := Lib.hid hlen
      have HC1 := Lib.hid hC1
      have HBit := Lib.hid hbit
      have H := Lib.hid h
      clear hlen hC1 hbit h hrow hC
      go_wp2_with fail
      -- REGION
      have HX1 : Aside0 (wr.drew.heap[w.heap.size]? = some (.cells #[vk] 57 (0, 0))) := HX
      have HV1 : Aside0 (Kd.R (Kd.slice 71 (Kd.int .u64)) 61 wr.drew w.heap.size (fun _ => True) vk rows) := ⟨Kd.R_drew HV.out⟩
      have HB1 : Aside0 (Below w.heap.size w wr.drew) := ⟨below_drew HB.out⟩
      have HC2 : Aside0 ((Kd.int .u64).C wr.drew B l.length l) := ⟨Kd.C_drew HC1.out⟩
      have hvc1 : wr.drew.cell? ⟨w.heap.size, 0, none⟩ = some vk := hvc
      refine start_ (n := 12) (S := fun w' => w'.cell? ⟨w.heap.size, 0, none⟩ = some vk) (ds := [8, 11]) #[false, false, false, false, false, false, false, false, false, false, false, false] (by kernel_rfl) rfl rfl hvc1 (fun hHeld => ?_); refine with_tabW CopyR.tab7 CopyR.bits7 (fun HT_ HW_ => ?_)
      generalize wr.drew = wx at HX1 HV1 HB1 HC2 hvc1 hHeld ⊢
      clear HX HV HB HC1 hvc
      refine pure_ (i := 0) (N := some 19) (v := ?_) (a' := ?_) #[true, false, false, false, false, false, false, false, false, false, false, false] rfl rfl (any_of HT_.out (by kernel_rfl)) (fun _ _ _ h => h) (Or.inl ⟨by rfl, ?_⟩) ?_ ?_
      rotate_left
      · intro w'
        go_simp
        with_reducible rfl
      rotate_left
      · simp only [Act.put, List.setIfInBounds_toArray, List.set_cons_zero, List.set_cons_succ, i64_w, i32_w]
        rfl
      refine pure_ (i := 1) (N := some 20) (v := ?_) (a' := ?_) #[true, true, false, false, false, false, false, false, false, false, false, false] rfl rfl (any_of HT_.out (by kernel_rfl)) (fun _ _ _ h => h) (Or.inl ⟨by rfl, ?_⟩) ?_ ?_
      rotate_left
      · intro w'
        go_simp
        with_reducible rfl
      rotate_left
      · simp only [Act.put, List.setIfInBounds_toArray, List.set_cons_zero, List.set_cons_succ, i64_w, i32_w]
        rfl
      refine pure_ (i := 2) (N := some 21) (v := ?_) (a' := ?_) #[true, true, true, false, false, false, false, false, false, false, false, false] rfl rfl (any_of HT_.out (by kernel_rfl)) (fun _ _ _ h => h) (Or.inl ⟨by rfl, ?_⟩) ?_ ?_
      rotate_left
      · intro w'
        go_simp
        with_reducible rfl
      rotate_left
      · simp only [Act.put, List.setIfInBounds_toArray, List.set_cons_zero, List.set_cons_succ, i64_w, i32_w]
        rfl
      refine pure_ (i := 3) (N := some 22) (v := ?_) (a' := ?_) #[true, true, true, true, false, false, false, false, false, false, false, false] rfl rfl (any_of HT_.out (by kernel_rfl)) (fun _ _ _ h => h) (Or.inl ⟨by rfl, ?_⟩) ?_ ?_
      rotate_left
      · intro w'
        go_simp
        with_reducible rfl
      rotate_left
      · simp only [Act.put, List.setIfInBounds_toArray, List.set_cons_zero, List.set_cons_succ, i64_w, i32_w]
        rfl
      refine take_ (i := 4) (N := some 23) (v := ?_) (a' := ?_) #[true, true, true, true, true, false, false, false, false, false, false, false] rfl rfl (take_ofW HT_.out HW_.out (by kernel_rfl)) (fun _ _ _ h => h) (Or.inl ⟨by rfl, ?_⟩) hHeld ?_ ?_
      rotate_left
      · intro w' s0
        skip
        go_simp
        with_reducible rfl
      rotate_left
      · simp only [Act.put, List.setIfInBounds_toArray, List.set_cons_zero, List.set_cons_succ, i64_w, i32_w]
        rfl
      refine pure_ (i := 5) (N := some 24) (v := ?_) (a' := ?_) #[true, true, true, true, true, true, false, false, false, false, false, false] rfl rfl (any_of HT_.out (by kernel_rfl)) (fun _ _ _ h => h) (Or.inl ⟨by rfl, ?_⟩) ?_ ?_
      rotate_left
      · intro w'
        go_simp
        with_reducible rfl
      rotate_left
      · simp only [Act.put, List.setIfInBounds_toArray, List.set_cons_zero, List.set_cons_succ, i64_w, i32_w]
        rfl
      refine one_ (i := 6) (N := some 25) #[true, true, true, true, true, true, true, false, false, false, false, false] rfl rfl (one_of HT_.out (by kernel_rfl)) (by decide) (fun K hK => ?_)
      refine goes_ Try.func39 (by kernel_rfl) rfl #[.slice B l.length cB, .slice none 0 0] (by rfl) rfl rfl (by (try simp only [List.map_toArray, List.map_cons, List.map_nil]); first | done | rfl) ?_
      refine (Or_copy wx B cB l hW hl64 hlc HC2.out).mono ?_
      rintro e w1 ⟨vr, r, rfl, hRr, hWr, hlr, hbr, hBr⟩
      obtain ⟨inner0, hown0⟩ := Kd.R_own HV1.out
      have hRr1 := Kd.R_lower (Kd.R_new hRr hown0) (Below.size HB1.out)
      have HV2 := Aside0.mk (Kd.R_below HV1.out hBr)
      have HB2 := Aside0.mk (below_then HB1.out (Below.size HB1.out) hBr)
      have HX2 : Aside0 (w1.heap[w.heap.size]? = some (.cells #[vk] 57 (0, 0))) := ⟨(hBr.block w.heap.size (Array.getElem?_eq_some_iff.1 HX1.out).1).trans HX1.out⟩
      have hvc2 : w1.cell? ⟨w.heap.size, 0, none⟩ = some vk := by simp [World.cell?, HX2.out]
      have hlt1 := (Array.getElem?_eq_some_iff.1 HX2.out).1
      have HRR := Aside0.mk hRr1
      have HRP := Aside0.mk (And.intro hWr (And.intro hlr hbr))
      clear HX1 HV1 HB1 HC2 hvc1 hHeld hRr hRr1 hWr hlr hbr hBr hown0 inner0
      obtain ⟨Ar, cr, rfl⟩ := Kd.R_slice HRR.out
      refine ⟨_, rfl, hK.out _ _ hvc2 (fun hHeld => ?_)⟩
      clear hK K
      simp only [Act.put, List.setIfInBounds_toArray, List.set_cons_zero, List.set_cons_succ]
      refine one_ (i := 7) (N := some 26) #[true, true, true, true, true, true, true, true, false, false, false, false] rfl rfl (one_of HT_.out (by kernel_rfl)) (by decide) (fun K hK => ?_)
      refine value_ (v := .slice (some ⟨w1.heap.size, 0, none⟩) 1 1) (w1 := w1.alloc (.cells #[.slice Ar r.length cr] 61)) (by rfl) rfl (by go_simp) ?_
      have hvc3 : (w1.alloc (.cells #[.slice Ar r.length cr] 61)).cell? ⟨w.heap.size, 0, none⟩ = some vk := (World.cell?_alloc_lt w1 _ _ hlt1).trans hvc2
      refine hK.out _ _ hvc3 (fun hHeld => ?_)
      clear hK K
      simp only [Act.put, List.setIfInBounds_toArray, List.set_cons_zero, List.set_cons_succ]
      refine last_ (i := 8) (N := some 27) #[true, true, true, true, true, true, true, true, true, false, false, false] rfl rfl (one_of HT_.out (by kernel_rfl)) (by decide) (fun K hK => ?_)
      refine Kd.R_append_step (Kd.slice 71 (Kd.int .u64)) (w0 := w) w.heap.size (by rfl) (.tmp 23) (.tmp 26) 55 61 (.slice none 0 0) 24 rfl Try.underlying55 infoR rfl (by decide) (by omega) vk rows r [.slice Ar r.length cr] (fun _ => True) (fun k => True ∧ some k ≠ vk.ownBlock) (by rfl) (by rfl) ⟨_, rfl, HRR.out⟩ (fun _ hk => hk) (fun _ _ => trivial) HV2.out HB2.out (Below.size HB2.out) (by rw [HL.out]; omega) ?_
      intro v1 w2 hR2 hB2 hg2 hat2
      have HX3 : Aside0 (w2.heap[w.heap.size]? = some (.cells #[vk] 57 (0, 0))) := ⟨(hg2.block w.heap.size hlt1 hne).trans HX2.out⟩
      have hvc4 : w2.cell? ⟨w.heap.size, 0, none⟩ = some vk := by simp [World.cell?, HX3.out]
      have hfz4 : w2.frozen? ⟨w.heap.size, 0, none⟩ = false := by simp [World.frozen?, HX3.out]
      obtain ⟨A1, c1, rfl⟩ := Kd.R_slice hR2
      have HR2 := Aside0.mk hR2
      have HB3 := Aside0.mk hB2
      clear hR2 hB2 hg2 hat2 HX2 HV2 HB2 hvc2 hvc3 hHeld HRR
      refine hK.out _ _ ?_
      clear hK K
      simp only [Act.put, List.setIfInBounds_toArray, List.set_cons_zero, List.set_cons_succ]
      refine pure_ (i := 9) (N := some 28) (v := ?_) (a' := ?_) #[true, true, true, true, true, true, true, true, true, true, false, false] rfl rfl (any_of HT_.out (by kernel_rfl)) (fun _ _ _ h => h) (Or.inl ⟨by rfl, ?_⟩) ?_ ?_
      rotate_left
      · intro w'
        go_simp
        with_reducible rfl
      rotate_left
      · simp only [Act.put, List.setIfInBounds_toArray, List.set_cons_zero, List.set_cons_succ, i64_w, i32_w]
        rfl
      refine pure_ (i := 10) (N := some 29) (v := ?_) (a' := ?_) #[true, true, true, true, true, true, true, true, true, true, true, false] rfl rfl (any_of HT_.out (by kernel_rfl)) (fun _ _ _ h => h) (Or.inl ⟨by rfl, ?_⟩) ?_ ?_
      rotate_left
      · intro w'
        go_simp
        with_reducible rfl
      rotate_left
      · simp only [Act.put, List.setIfInBounds_toArray, List.set_cons_zero, List.set_cons_succ, i64_w, i32_w]
        rfl
      refine last_ (i := 11) (N := none) #[true, true, true, true, true, true, true, true, true, true, true, true] rfl rfl (one_of HT_.out (by kernel_rfl)) (by decide) (fun K hK => ?_)
      refine skip_ (w1 := ?_) (by rfl) rfl ?_ ?_
      rotate_left
      · go_simp
        rfl
      refine hK.out _ _ ?_
      clear hK K
      refine done_ (done_of HT_.out (by kernel_rfl)) ?_
      -- END REGION
      go_wp2
      have HR3 := HR2.out
      rw [List.length_append, List.length_singleton] at HR3
      exact ⟨⟨k + 1, rows ++ [r], .slice A1 (rows.length + 1) c1, by omega, by go_num, ⟨HR.out.snoc HRP.out.1 HRP.out.2.1 (fun i => by rw [HRP.out.2.2, HBit.out])⟩, ⟨Boxed.set _ HX3.out⟩, ⟨Kd.R_set HR3 HX3.out (by decide) 0 _⟩, ⟨HB3.out.setCell (p := ⟨w.heap.size, 0, none⟩) (Nat.le_refl _) _⟩⟩, by simp [intOf]; omega⟩
    · obtain rfl : k = n := by omega
      go_wp2
      go_ret
      refine ⟨w.heap.size, vk, rfl, ⟨HX.out, rows, Kd.R_lower HV.out (Nat.zero_le _), HR.out.1, hn4, hS, HR.out.2⟩, Nat.le_refl _, fun q hq => ?_, HB.out⟩
      obtain ⟨inner, hown⟩ := Kd.R_own HV.out
      exact own_base hown q hq
end Go.Proofs.Ytfkmngmnnlgjdaa.Gr

/- Words for maps that a call makes: block b of the world is a map that holds f (a function from keys to what they hold); what a look-up, a store, a delete and len do. Over whatever program. -/
namespace Go.Proofs.Ytfkmngmnnlgjdaa.Mw
open Go Go.RowKit Go.Maps

/-- A kind of maps: the types' numbers, how keys and elements are written, and what they read as. -/
structure MK (P : Program) (κ ε : Type) where
  k : TypeId
  e : TypeId
  t : TypeId
  ek : κ → Value
  lk : κ → Lit
  ok : κ → Prop
  ev : ε → Value
  le : ε → DataW Unit
  oke : ε → Prop
  z : ε
  R : Value → Option (DataW Unit × List MemPlace)
  K : Keyed P k
  ht : P.underlying t = some (.map k e)
  hkey : ∀ a, ok a → keyOf P k (ek a) = some (lk a)
  hinj : ∀ a b, ok a → ok b → lk a = lk b → a = b
  hz : ∀ w, (zeroValue e).run P w = .ok (ev z) w
  hzo : oke z
  hR : ∀ x, oke x → R (ev x) = some (le x, [])
  hRi : ∀ v d ps x, R v = some (d, ps) → d = le x → v = ev x

/-- A function with one place turned. -/
def upd {κ ε : Type} [DecidableEq κ] (f : κ → Option ε) (a : κ) (x : Option ε) : κ → Option ε := fun b => if b = a then x else f b

section
variable {P : Program} {κ ε : Type}

theorem ownsMap_tight {P : Program} {k : TypeId} {R : Value → Option (DataW Unit × List MemPlace)} {w : World} {b n : Nat} {D : DataW Unit} (h : w.ownsMap P k R b n D) : w.ownsMap P k R b (Maps.size D) D := by
  obtain ⟨es, clock, hb, F, _, hD⟩ := h
  refine ⟨es, clock, hb, F, ?_, hD⟩
  rw [hD]
  simp [Maps.size, length_sorted]
/-- Block b is a map with m entries; at key a it holds f a. -/
def MIs (M : MK P κ ε) (w : World) (b m : Nat) (f : κ → Option ε) : Prop :=
  ∃ D : DataW Unit, w.ownsMap P M.k M.R b m D ∧ Maps.size D = m ∧ ∀ a, M.ok a → Maps.has D (M.lk a) = (f a).isSome ∧ D.atKey (M.lk a) (M.le M.z) = M.le ((f a).getD M.z)

variable {M : MK P κ ε} {w w' : World} {b m : Nat} {f : κ → Option ε}

theorem MIs.made (M : MK P κ ε) (w : World) : MIs M (w.alloc (.map #[] 0)) w.heap.size 0 (fun _ => none) :=
  ⟨.map [], World.ownsMap_made w P M.k M.R, rfl, fun _ _ => ⟨rfl, rfl⟩⟩
theorem MIs.kept (h : MIs M w b m f) {row : Option Nat} (hg : w.grownBy w' row) (hne : some b ≠ row) : MIs M w' b m f := by
  obtain ⟨D, ho, hs, hf⟩ := h
  exact ⟨D, ho.kept hg hne, hs, hf⟩
theorem MIs.alloc (h : MIs M w b m f) (o : Obj) : MIs M (w.alloc o) b m f := h.kept (World.grownBy_alloc w o none) (by simp)
theorem MIs.drew (h : MIs M w b m f) : MIs M w.drew b m f := h
theorem MIs.drewN (h : MIs M w b m f) (q : Nat) : MIs M (w.drewN q) b m f := by
  obtain ⟨D, ho, hs, hf⟩ := h
  obtain ⟨es, clock, hb, F, hsz, hD⟩ := ho
  exact ⟨D, ⟨es, clock, hb, F, hsz, hD⟩, hs, hf⟩
theorem MIs.lt (h : MIs M w b m f) : b < w.heap.size := by
  obtain ⟨D, ho, _⟩ := h
  exact ho.lt
theorem MIs.below {B : Nat} (h : MIs M w b m f) (hb : Below B w w') (hB : b < B) : MIs M w' b m f := by
  obtain ⟨D, ⟨es, clock, hbk, F, hsz, hD⟩, hs, hf⟩ := h
  exact ⟨D, ⟨es, clock, (hb.block b hB).trans hbk, F, hsz, hD⟩, hs, hf⟩
theorem MIs.setCell (h : MIs M w b m f) {a : Addr} (ha : b ≠ a.block) (u : Value) : MIs M (w.setCell a u) b m f := by
  obtain ⟨D, ho, hs, hf⟩ := h
  exact ⟨D, ho.setCell ha u, hs, hf⟩
theorem MIs.ext (h : MIs M w b m f) {g : κ → Option ε} (hg : ∀ a, M.ok a → g a = f a) : MIs M w b m g := by
  obtain ⟨D, ho, hs, hf⟩ := h
  exact ⟨D, ho, hs, fun a ha => by rw [hg a ha]; exact hf a ha⟩

/-- A look-up. -/
theorem MIs.run_look (h : MIs M w b m f) (a : κ) (ha : M.ok a) : (Instr.lookup M.t (.map (some b)) (M.ek a) false).run P w = .ok (M.ev ((f a).getD M.z)) w := by
  obtain ⟨D, ho, hs, hf⟩ := h
  obtain ⟨v, ps, hrun, hv⟩ := ho.lookup M.K M.ht (M.hz w) (M.hR _ M.hzo) (M.hkey a ha)
  rw [(hf a ha).2] at hv
  rw [hrun, M.hRi _ _ _ _ hv rfl]
/-- A look-up that says whether the key is there. -/
theorem MIs.run_look_ok (h : MIs M w b m f) (a : κ) (ha : M.ok a) : (Instr.lookup M.t (.map (some b)) (M.ek a) true).run P w = .ok (.tuple #[M.ev ((f a).getD M.z), .bool (f a).isSome]) w := by
  obtain ⟨D, ho, hs, hf⟩ := h
  obtain ⟨v, ps, hrun, hv⟩ := ho.look_ok M.K M.ht (M.hz w) (M.hR _ M.hzo) (M.hkey a ha)
  rw [(hf a ha).2] at hv
  rw [hrun, M.hRi _ _ _ _ hv rfl, (hf a ha).1]
theorem MIs.run_len (h : MIs M w b m f) (ty : TypeId) : (Builtin.len_ #[M.t] ty #[.map (some b)]).run P w = .ok (.int .i64 (m : Int)) w := by
  obtain ⟨D, ho, hs, hf⟩ := h
  rw [ho.len M.ht ty, hs]
/-- A store. -/
theorem MIs.run_put [DecidableEq κ] (h : MIs M w b m f) (hn : m < maxLen) (a : κ) (ha : M.ok a) (x : ε) (hx : M.oke x) :
    ∃ w', (Instr.mapUpdate M.t (.map (some b)) (M.ek a) (M.ev x)).run P w = .ok () w' ∧ MIs M w' b (if (f a).isSome then m else m + 1) (upd f a (some x)) ∧ w.grownBy w' (some b) := by
  obtain ⟨D, ho, hs, hf⟩ := h
  obtain ⟨w', hrun, ho', ht⟩ := ho.store M.K M.ht hn (M.hkey a ha) (M.hR x hx)
  have hk := M.K.key (M.hkey a ha)
  have hsz : Maps.size (D.put (M.lk a) (M.le x)) = if (f a).isSome then m else m + 1 := by rw [size_put (ho.tidy M.K), (hf a ha).1, hs]
  refine ⟨w', hrun, ⟨_, hsz ▸ ownsMap_tight ho', hsz, fun c hc => ?_⟩, ht.grown⟩
  · unfold upd
    by_cases hca : c = a
    · subst hca
      rw [if_pos rfl, has_put_same ho.isMap hk, atKey_put_same ho.isMap hk]
      exact ⟨rfl, rfl⟩
    · rw [if_neg hca]
      have hne : M.lk c ≠ M.lk a := fun e => hca (M.hinj c a hc ha e)
      rw [has_put_other hne, atKey_put_other hne]
      exact hf c hc
/-- A delete. -/
theorem MIs.run_del [DecidableEq κ] (h : MIs M w b m f) (a : κ) (ha : M.ok a) (ty : TypeId) :
    ∃ w', (Builtin.delete_ #[M.t, M.k] ty #[.map (some b), M.ek a]).run P w = .ok (.tuple #[]) w' ∧ MIs M w' b (if (f a).isSome then m - 1 else m) (upd f a none) ∧ w.grownBy w' (some b) := by
  obtain ⟨D, ho, hs, hf⟩ := h
  obtain ⟨w', hrun, ho', ht⟩ := ho.drop M.K M.ht (M.hkey a ha) ty
  have hk := M.K.key (M.hkey a ha)
  have hsz : Maps.size (D.del (M.lk a)) = if (f a).isSome then m - 1 else m := by
    have h1 := size_del (k := M.lk a) (ho.tidy M.K)
    rw [(hf a ha).1, hs] at h1
    split at h1 <;> simp_all <;> omega
  refine ⟨w', hrun, ⟨_, hsz ▸ ownsMap_tight ho', hsz, fun c hc => ?_⟩, ht.grown⟩
  · unfold upd
    by_cases hca : c = a
    · subst hca
      rw [if_pos rfl, has_del_same, atKey_del_same]
      exact ⟨rfl, rfl⟩
    · rw [if_neg hca]
      have hne : M.lk c ≠ M.lk a := fun e => hca (M.hinj c a hc ha e)
      rw [has_del_other hne, atKey_del_other hne]
      exact hf c hc
end

section
variable {P : Program} {κ ε : Type} {M : MK P κ ε} {w : World} {b m : Nat} {f : κ → Option ε} {ops : Array Oper} {rest : List Oper} {o : Oper} {a : Act} {Q : Exit → Act → World → Prop}

/-- At the operation, for the walk. -/
theorem wl_look (h : MIs M w b m f) (hg : o.guard = none) (mo x : Operand) (hop : o.op = Op.lookup M.t mo x false) (hm : a.eval mo = .map (some b)) (c : κ) (hc : M.ok c) (hx : a.eval x = M.ek c)
    (hK : wpList P ops Q rest (a.put o.dst (M.ev ((f c).getD M.z))) w) : wpList P ops Q (o :: rest) a w := by
  refine wpList_plain hg fun K' hK' => ?_
  unfold Oper.wp
  simp [execOp, hop, hm, hx, h.run_look c hc, Result.andThen]
  exact hK' _ _ hK
theorem wl_look_ok (h : MIs M w b m f) (hg : o.guard = none) (mo x : Operand) (hop : o.op = Op.lookup M.t mo x true) (hm : a.eval mo = .map (some b)) (c : κ) (hc : M.ok c) (hx : a.eval x = M.ek c)
    (hK : wpList P ops Q rest (a.put o.dst (.tuple #[M.ev ((f c).getD M.z), .bool (f c).isSome])) w) : wpList P ops Q (o :: rest) a w := by
  refine wpList_plain hg fun K' hK' => ?_
  unfold Oper.wp
  simp [execOp, hop, hm, hx, h.run_look_ok c hc, Result.andThen]
  exact hK' _ _ hK
theorem wl_look1 (h : MIs M w b m f) (hg : o.guard = none) (mo x : Operand) (hop : o.op = Op.lookup M.t mo x false) (hm : a.eval mo = .map (some b)) (c : κ) (hc : M.ok c) (hx : a.eval x = M.ek c) (y : ε) (hf : (f c).getD M.z = y) (v : Value) (hv : M.ev y = v)
    (hK : wpList P ops Q rest (a.put o.dst v) w) : wpList P ops Q (o :: rest) a w := by
  subst hf
  subst hv
  exact wl_look h hg mo x hop hm c hc hx hK
theorem wl_ok1 (h : MIs M w b m f) (hg : o.guard = none) (mo x : Operand) (hop : o.op = Op.lookup M.t mo x true) (hm : a.eval mo = .map (some b)) (c : κ) (hc : M.ok c) (hx : a.eval x = M.ek c) (y : ε) (hf : (f c).getD M.z = y) (q : Bool) (hq : (f c).isSome = q) (v : Value) (hv : M.ev y = v)
    (hK : wpList P ops Q rest (a.put o.dst (.tuple #[v, .bool q])) w) : wpList P ops Q (o :: rest) a w := by
  subst hf
  subst hv
  subst hq
  exact wl_look_ok h hg mo x hop hm c hc hx hK
theorem wl_len (h : MIs M w b m f) (hg : o.guard = none) (mo : Operand) (hop : o.op = Op.call { callee := Callee.builtin Builtin.len, args := #[mo], argTypes := #[M.t] }) (hm : a.eval mo = .map (some b))
    (hK : wpList P ops Q rest (a.put o.dst (.int .i64 (m : Int))) w) : wpList P ops Q (o :: rest) a w := by
  refine wpList_plain hg fun K' hK' => ?_
  unfold Oper.wp
  simp [execOp, hop, resolve, invoke, builtin, hm, h.run_len o.type, Result.andThen]
  exact hK' _ _ hK
theorem wl_put [DecidableEq κ] (h : MIs M w b m f) (hg : o.guard = none) (mo x v : Operand) (hop : o.op = Op.mapUpdate M.t mo x v) (hm : a.eval mo = .map (some b)) (hn : m < maxLen) (c : κ) (hc : M.ok c) (hx : a.eval x = M.ek c) (y : ε) (hy : M.oke y) (hv : a.eval v = M.ev y)
    (hK : ∀ w', MIs M w' b (if (f c).isSome then m else m + 1) (upd f c (some y)) → w.grownBy w' (some b) → wpList P ops Q rest (a.put o.dst undef) w') : wpList P ops Q (o :: rest) a w := by
  refine wpList_plain hg fun K' hK' => ?_
  obtain ⟨w', hrun, r1, r2⟩ := h.run_put hn c hc y hy
  unfold Oper.wp
  simp [execOp, hop, hm, hx, hv, hrun, Result.andThen]
  exact hK' _ _ (hK w' r1 r2)
theorem wl_del [DecidableEq κ] (h : MIs M w b m f) (hg : o.guard = none) (mo x : Operand) (hop : o.op = Op.call { callee := Callee.builtin Builtin.delete, args := #[mo, x], argTypes := #[M.t, M.k] }) (hm : a.eval mo = .map (some b)) (c : κ) (hc : M.ok c) (hx : a.eval x = M.ek c)
    (hK : ∀ w', MIs M w' b (if (f c).isSome then m - 1 else m) (upd f c none) → w.grownBy w' (some b) → wpList P ops Q rest (a.put o.dst (.tuple #[])) w') : wpList P ops Q (o :: rest) a w := by
  refine wpList_plain hg fun K' hK' => ?_
  obtain ⟨w', hrun, r1, r2⟩ := h.run_del c hc o.type
  unfold Oper.wp
  simp [execOp, hop, resolve, invoke, builtin, hm, hx, hrun, Result.andThen]
  exact hK' _ _ (hK w' r1 r2)
end

/-- Maps from numbers (int) to bools. -/
def intBool (P : Program) (k e t : TypeId) (hk : P.underlying k = some (.int .i64)) (he : P.underlying e = some .bool) (ht : P.underlying t = some (.map k e)) (hz : ∀ w, (zeroValue e).run P w = .ok (.bool false) w) : MK P Int Bool where
  k := k
  e := e
  t := t
  ek := .int .i64
  lk := .int .i64
  ok := fun a => (Lit.int .i64 a).wf = true
  ev := .bool
  le := fun x => .lit (.bool x)
  oke := fun _ => True
  z := false
  R := plainElem P e
  K := int_keyed hk
  ht := ht
  hkey := fun a ha => keyOf_int_mk hk ha
  hinj := fun a b _ _ h => by injection h
  hz := hz
  hzo := trivial
  hR := fun x _ => plainElem_bool he x
  hRi := fun v d ps x h hd => by
    subst hd
    unfold plainElem at h
    rw [he] at h
    cases v <;> simp at h
    rw [h.1]
/-- Maps from numbers to numbers. -/
def intInt (P : Program) (k e t : TypeId) (hk : P.underlying k = some (.int .i64)) (he : P.underlying e = some (.int .i64)) (ht : P.underlying t = some (.map k e)) (hz : ∀ w, (zeroValue e).run P w = .ok (.int .i64 0) w) : MK P Int Int where
  k := k
  e := e
  t := t
  ek := .int .i64
  lk := .int .i64
  ok := fun a => (Lit.int .i64 a).wf = true
  ev := .int .i64
  le := fun x => .lit (.int .i64 x)
  oke := fun a => (Lit.int .i64 a).wf = true
  z := 0
  R := plainElem P e
  K := int_keyed hk
  ht := ht
  hkey := fun a ha => keyOf_int_mk hk ha
  hinj := fun a b _ _ h => by injection h
  hz := hz
  hzo := by decide
  hR := fun x hx => plainElem_int he hx
  hRi := fun v d ps x h hd => by
    subst hd
    obtain ⟨c, rfl, hc, _⟩ := plainElem_int_inv he h
    injection hc with hc
    injection hc with hc
    injection hc with _ hc
    rw [hc]
/-- Maps from strings to bools. -/
def strBool (P : Program) (k e t : TypeId) (hk : P.underlying k = some .string) (he : P.underlying e = some .bool) (ht : P.underlying t = some (.map k e)) (hz : ∀ w, (zeroValue e).run P w = .ok (.bool false) w) : MK P ByteArray Bool where
  k := k
  e := e
  t := t
  ek := .string
  lk := fun s => .string s.data.toList
  ok := fun s => s.size ≤ maxLen
  ev := .bool
  le := fun x => .lit (.bool x)
  oke := fun _ => True
  z := false
  R := plainElem P e
  K := string_keyed hk
  ht := ht
  hkey := fun a ha => Go.WideMaps.keyOf_string_mk hk ha
  hinj := fun a b _ _ h => by
    injection h with h
    cases a; cases b
    congr 1
    exact Array.toList_inj.1 h
  hz := hz
  hzo := trivial
  hR := fun x _ => plainElem_bool he x
  hRi := fun v d ps x h hd => by
    subst hd
    unfold plainElem at h
    rw [he] at h
    cases v <;> simp at h
    rw [h.1]
theorem wf64 {a : Int} (h0 : -9223372036854775808 ≤ a) (h1 : a ≤ 9223372036854775807) : (Lit.int .i64 a).wf = true := Go.WalkArith.wf_i64 ⟨h0, h1⟩
end Go.Proofs.Ytfkmngmnnlgjdaa.Mw

/- Plain facts for the walk of Shell: what the map of the nodes that are left holds. -/
namespace Go.Proofs.Ytfkmngmnnlgjdaa.Pu
open Go.Proofs.Ytfkmngmnnlgjdaa.Mw

theorem upd_same {f : Int → Option Int} {a : Int} {x : Option Int} : upd f a x a = x := by simp [upd]
theorem upd_other {f : Int → Option Int} {a b : Nat} {x : Option Int} (h : b ≠ a) : upd f (a : Int) x (b : Int) = f (b : Int) := by
  unfold upd
  rw [if_neg (by omega)]
/-- The first k nodes with their numbers of neighbours. -/
def ShI (n : Nat) (adj : Adj) (k : Nat) (f : Int → Option Int) : Prop := ∀ a : Nat, f (a : Int) = if a < k then some ((deg n adj [] a : Nat) : Int) else none
/-- The nodes that are not out. -/
def Sh (n : Nat) (adj : Adj) (out : List Nat) (f : Int → Option Int) : Prop := ∀ a : Nat, f (a : Int) = if a < n ∧ out.contains a = false then some ((deg n adj out a : Nat) : Int) else none
/-- q has gone out; some of its neighbours have been told. -/
def ShD (n : Nat) (adj : Adj) (out : List Nat) (q : Nat) (done : List Nat) (f : Int → Option Int) : Prop :=
  ∀ a : Nat, f (a : Int) = if a < n ∧ (out ++ [q]).contains a = false then some ((deg n adj (if done.contains a then out ++ [q] else out) a : Nat) : Int) else none
theorem ShI.start (n : Nat) (adj : Adj) : ShI n adj 0 (fun _ => none) := fun a => by simp
theorem ShI.step {n : Nat} {adj : Adj} {k : Nat} {f : Int → Option Int} (h : ShI n adj k f) : ShI n adj (k + 1) (upd f (k : Int) (some (((near n adj k).length : Nat) : Int))) := by
  intro a
  by_cases e : a = k
  · subst e
    rw [upd_same, if_pos (by omega), deg_nil]
  · rw [upd_other e, h a]
    by_cases h1 : a < k
    · rw [if_pos h1, if_pos (by omega)]
    · rw [if_neg h1, if_neg (by omega)]
theorem ShI.fresh {n : Nat} {adj : Adj} {k : Nat} {f : Int → Option Int} (h : ShI n adj k f) : f (k : Int) = none := by rw [h k, if_neg (by omega)]
theorem ShI.all {n : Nat} {adj : Adj} {f : Int → Option Int} (h : ShI n adj n f) : Sh n adj [] f := by
  intro a
  rw [h a]
  by_cases h1 : a < n
  · rw [if_pos h1, if_pos ⟨h1, rfl⟩]
  · rw [if_neg h1, if_neg (fun h2 => h1 h2.1)]
theorem Sh.del {n : Nat} {adj : Adj} {out : List Nat} {f : Int → Option Int} (h : Sh n adj out f) (q : Nat) : ShD n adj out q [] (upd f (q : Int) none) := by
  intro a
  by_cases e : a = q
  · subst e
    rw [upd_same, if_neg]
    intro h1
    have := h1.2
    simp at this
  · rw [upd_other e, h a]
    have hc : (out ++ [q]).contains a = out.contains a := by
      rw [List.contains_eq_mem, List.contains_eq_mem]
      apply decide_eq_decide.2
      simp [e]
    rw [hc]
    rfl
theorem ShD.skip {n : Nat} {adj : Adj} {out : List Nat} {q : Nat} {done : List Nat} {f : Int → Option Int} (h : ShD n adj out q done f) {b : Nat} (hb : f (b : Int) = none) : ShD n adj out q (done ++ [b]) f := by
  intro a
  by_cases e : a = b
  · subst e
    rw [hb]
    rw [h a] at hb
    by_cases h1 : a < n ∧ (out ++ [q]).contains a = false
    · rw [if_pos h1] at hb; cases hb
    · rw [if_neg h1]
  · rw [h a]
    have hc : (done ++ [b]).contains a = done.contains a := by
      rw [List.contains_eq_mem, List.contains_eq_mem]
      apply decide_eq_decide.2
      simp [e]
    rw [hc]
theorem ShD.told {n : Nat} {adj : Adj} (hS : Sane n adj) {out : List Nat} {q : Nat} {done : List Nat} {f : Int → Option Int} (h : ShD n adj out q done f) (hq : out.contains q = false) {b : Nat} (hqb : adj q b = true) (hnd : done.contains b = false) {d : Int} (hb : f (b : Int) = some d) :
    0 < d ∧ d ≤ n ∧ ShD n adj out q (done ++ [b]) (upd f (b : Int) (some (d - 1))) := by
  have hbb := h b
  rw [hb] at hbb
  by_cases h1 : b < n ∧ (out ++ [q]).contains b = false
  · rw [if_pos h1, hnd] at hbb
    injection hbb with hbb
    have hd := deg_snoc hS hq (a := b)
    rw [if_pos (by rw [hS.sym]; exact hqb)] at hd
    have hle := deg_le n adj out b
    simp only [Bool.false_eq_true, if_false] at hbb
    refine ⟨by omega, by omega, fun a => ?_⟩
    by_cases e : a = b
    · subst e
      rw [upd_same, if_pos h1]
      have hc : (done ++ [a]).contains a = true := by simp
      rw [hc]
      simp only [if_true]
      congr 1
      omega
    · rw [upd_other e, h a]
      have hc : (done ++ [b]).contains a = done.contains a := by
        rw [List.contains_eq_mem, List.contains_eq_mem]
        apply decide_eq_decide.2
        simp [e]
      rw [hc]
  · rw [if_neg h1] at hbb
    cases hbb
theorem ShD.over {n : Nat} {adj : Adj} (hS : Sane n adj) {out : List Nat} {q : Nat} {f : Int → Option Int} (h : ShD n adj out q (near n adj q) f) (hq : out.contains q = false) : Sh n adj (out ++ [q]) f := by
  intro a
  rw [h a]
  by_cases hm : (near n adj q).contains a = true
  · rw [hm]; rfl
  · have hm' : (near n adj q).contains a = false := by simpa using hm
    rw [hm']
    have hn : adj a q = false := by
      cases he : adj a q with
      | false => rfl
      | true =>
        exfalso
        apply hm
        rw [List.contains_eq_mem]
        exact decide_eq_true ((mem_near hS).2 (by rw [hS.sym]; exact he))
    have hd := deg_snoc hS hq (a := a)
    rw [hn] at hd
    simp only [Bool.false_eq_true, if_false, Nat.add_zero] at hd ⊢
    rw [hd]
theorem Sh.yes {n : Nat} {adj : Adj} {out : List Nat} {f : Int → Option Int} (h : Sh n adj out f) {a : Nat} (ha : a < n) (ho : out.contains a = false) : f (a : Int) = some ((deg n adj out a : Nat) : Int) := by rw [h a, if_pos ⟨ha, ho⟩]
theorem Sh.no {n : Nat} {adj : Adj} {out : List Nat} {f : Int → Option Int} (h : Sh n adj out f) {a : Nat} (ho : out.contains a = true) : f (a : Int) = none := by
  rw [h a, if_neg]
  intro h1
  rw [ho] at h1
  cases h1.2
/-- The best so far as the code keeps it. -/
def bestI : Option Nat → Int
  | none => -1
  | some q => (q : Int)
theorem getD_nats (l : List Nat) (i : Nat) (hi : i < l.length) : (nats l).getD i 0 = ((l.getD i 0 : Nat) : Int) := by
  unfold nats
  rw [List.getD_eq_getElem?_getD, List.getD_eq_getElem?_getD, List.getElem?_map, List.getElem?_eq_getElem hi]
  rfl
theorem nats_length (l : List Nat) : (nats l).length = l.length := by simp [nats]
theorem take_succ_getD (l : List Nat) (i : Nat) (hi : i < l.length) : l.take (i + 1) = l.take i ++ [l.getD i 0] := by
  rw [List.take_succ_eq_append_getElem hi, List.getD_eq_getElem?_getD, List.getElem?_eq_getElem hi]; rfl
theorem not_in_take {l : List Nat} (h : l.Nodup) {i : Nat} (hi : i < l.length) : (l.take i).contains (l.getD i 0) = false := by
  have h1 : (l.take (i + 1)).Nodup := List.Nodup.sublist (List.take_sublist _ _) h
  rw [take_succ_getD l i hi, List.nodup_append] at h1
  cases hc : (l.take i).contains (l.getD i 0) with
  | false => rfl
  | true => exact absurd rfl (h1.2.2 _ (by simpa using hc) _ (List.mem_singleton.2 rfl))
theorem getD_mem (l : List Nat) (i : Nat) (hi : i < l.length) : l.getD i 0 ∈ l := by
  rw [List.getD_eq_getElem?_getD, List.getElem?_eq_getElem hi]; exact List.getElem_mem hi
end Go.Proofs.Ytfkmngmnnlgjdaa.Pu
