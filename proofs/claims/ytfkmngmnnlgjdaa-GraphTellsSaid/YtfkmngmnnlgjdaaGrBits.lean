/- What the printed functions of package bits come to, in words of bitAt: which numbers are in the set that they answer. -/
import Derived.Test.YtfkmngmnnlgjdaaPuBits
import Derived.Test.YtfkmngmnnlgjdaaGfA
namespace Go.Proofs.Ytfkmngmnnlgjdaa.Gr
open Go.RowKit Go.Proofs.Ytfkmngmnnlgjdaa.Gf Go.Proofs.Ytfkmngmnnlgjdaa.Pu Go.Proofs.YtfkmngmnnlgjdaaW.PrintWords Go.Proofs.YtfkmngmnnlgjdaaW.PrintMore

theorem wr {x : Int} (h0 : -9223372036854775808 ≤ x) (h1 : x ≤ 9223372036854775807) : wrap64 x = x := by unfold wrap64; omega
theorem wr1 {n : Nat} (h : n ≤ 9223372036854775806) : wrap64 ((n : Int) + 1) = ((n + 1 : Nat) : Int) := by rw [wr (by omega) (by omega)]; omega
theorem rd_nat (l : List Int) (n : Nat) : rd l (n : Int) = l.getD n 0 := by unfold rd; rw [Int.toNat_natCast]

theorem short_ev (l : List Int) (hl : l.length < 17592186044416) : ∀ n : Nat, n ≤ l.length → (∀ j, n ≤ j → j < l.length → l.getD j 0 = 0) →
    ∃ m, (∀ j, m ≤ j → j < l.length → l.getD j 0 = 0) ∧ Ev (fun k => bits_short.l0 k l (n : Int)) (l.take m) := by
  intro n
  induction n with
  | zero =>
    intro _ hz
    refine ⟨0, hz, Ev.step (f := fun _ => some (l.take 0)) (fun k => ?_) (Ev.now _)⟩
    simp only [bits_short.l0]
    rw [if_neg (by omega)]
    simp only [Option.bind_some]
    rw [if_pos (by omega), if_pos (by omega), if_pos (by simp)]
    simp
  | succ n ih =>
    intro hn hz
    have hw : wrap64 (((n + 1 : Nat) : Int) - 1) = (n : Int) := by rw [wr (by omega) (by omega)]; omega
    by_cases h : l.getD n 0 = 0
    · obtain ⟨m, h1, h2⟩ := ih (by omega) (fun j hj hjl => by
        rcases Nat.eq_or_lt_of_le hj with e | e
        · subst e; exact h
        · exact hz j (by omega) hjl)
      refine ⟨m, h1, Ev.step (fun k => ?_) h2⟩
      simp only [bits_short.l0]
      rw [if_pos (by omega), hw, if_pos (by omega), if_pos (by omega), rd_nat, if_pos h]
    · refine ⟨n + 1, hz, Ev.step (f := fun _ => some (l.take (n + 1))) (fun k => ?_) (Ev.now _)⟩
      simp only [bits_short.l0]
      rw [if_pos (by omega), hw, if_pos (by omega), if_pos (by omega), rd_nat, if_neg h]
      simp only [Option.bind_some]
      rw [if_pos (by omega), if_pos (by omega), Int.toNat_natCast, if_pos (by simp; omega)]
      simp
theorem short_f {l : List Int} (hW : Wd l) (hl : l.length < 17592186044416) : ∃ r, Ev (fun k => bits_short.f k l) r ∧ Wd r ∧ r.length ≤ l.length ∧ ∀ i, bitAt r i = bitAt l i := by
  obtain ⟨m, h1, h2⟩ := short_ev l hl l.length (Nat.le_refl _) (fun j hj hjl => by omega)
  exact ⟨l.take m, h2, hW.take m, by simp; omega, bitAt_take h1⟩

theorem has_f {l : List Int} (hW : Wd l) {a : Int} (h0 : -9223372036854775808 ≤ a) (h1 : a ≤ 9223372036854775807) : bits_Has.f l a = some (decide (0 ≤ a) && bitAt l a.toNat) := by
  unfold bits_Has.f
  by_cases ha : 0 ≤ a
  · obtain ⟨n, rfl⟩ := Int.eq_ofNat_of_zero_le ha
    have e1 : wrap64 ((n : Int).tdiv 64) = ((n / 64 : Nat) : Int) := by
      rw [Int.tdiv_eq_ediv_of_nonneg ha, wr (by omega) (by omega)]; omega
    have e2 : (n : Int).tmod 64 = ((n % 64 : Nat) : Int) := by rw [Int.tmod_eq_emod_of_nonneg ha]; omega
    rw [if_pos ha, e1, e2, Int.toNat_natCast]
    by_cases hlt : n / 64 < l.length
    · rw [if_pos (by omega), if_pos (by omega), if_pos (by omega), rd_nat, and_test (hW.getD _).1 (hW.getD _).2 (by omega) (by omega), Int.toNat_natCast]
      simp [bitAt]
    · rw [if_neg (by omega), bitAt_ge (by omega)]
      simp
  · rw [if_neg ha]
    simp [ha]

/-- The numbers of a row that are members: 0 to 4095. -/
def among (l : List Int) (i : Nat) : Bool := decide (i < 4096) && l.contains (i : Int)
theorem of_ev (l : List Int) (hl : l.length ≤ 9223372036854775806) (hb : ∀ x ∈ l, -9223372036854775808 ≤ x ∧ x ≤ 9223372036854775807) : ∀ (d i : Nat) (s : List Int), d + i = l.length → s.length = 64 → Wd s → (∀ j, bitAt s j = among (l.take i) j) →
    ∃ r, Ev (fun k => bits_Of.l0 k s l (l.length : Int) (i : Int)) r ∧ Wd r ∧ r.length ≤ 64 ∧ ∀ j, bitAt r j = among l j := by
  intro d
  induction d with
  | zero =>
    intro i s hd hs hW hj
    obtain ⟨r, h1, h2, h3, h4⟩ := short_f hW (by omega)
    refine ⟨r, ?_, h2, by omega, fun j => by rw [h4, hj, List.take_of_length_le (by omega)]⟩
    refine Ev.step (f := fun k => (bits_short.f k s).bind fun t => some t) (fun k => ?_) (Ev.bind h1 (Ev.now r))
    simp only [bits_Of.l0]
    rw [if_neg (by omega)]
  | succ d ih =>
    intro i s hd hs hW hj
    have hi : i < l.length := by omega
    have hx := hb (l.getD i 0) (by rw [List.getD_eq_getElem?_getD, List.getElem?_eq_getElem hi]; exact List.getElem_mem hi)
    have htk : l.take (i + 1) = l.take i ++ [l.getD i 0] := by
      rw [List.take_succ_eq_append_getElem hi, List.getD_eq_getElem?_getD, List.getElem?_eq_getElem hi]; rfl
    have hw := wr1 (n := i) (by omega)
    by_cases hin : 0 ≤ l.getD i 0 ∧ l.getD i 0 < 4096
    · obtain ⟨m, hm⟩ := Int.eq_ofNat_of_zero_le hin.1
      have hm2 : m < 4096 := by have := hin.2; rw [hm] at this; omega
      have e1 : wrap64 ((m : Int).tdiv 64) = ((m / 64 : Nat) : Int) := by
        rw [Int.tdiv_eq_ediv_of_nonneg (by omega), wr (by omega) (by omega)]; omega
      have e2 : (m : Int).tmod 64 = ((m % 64 : Nat) : Int) := by rw [Int.tmod_eq_emod_of_nonneg (by omega)]; omega
      obtain ⟨hW2, hj2⟩ := bitAt_put hW (m := m) (by omega) (y := Go.bits .or .u64 (s.getD (m / 64) 0) (shl .u64 1 ((m % 64 : Nat) : Int))) rfl
      obtain ⟨r, h1, h2⟩ := ih (i + 1) _ (by omega) (by simpa using hs) hW2 (fun j => by
        rw [hj2, hj, htk, hm]
        unfold among
        by_cases hjm : j = m
        · subst hjm; simp [hm2]
        · have : ¬ ((j : Int) = (m : Int)) := by omega
          simp [hjm, this])
      refine ⟨r, Ev.step (fun k => ?_) h1, h2⟩
      simp only [bits_Of.l0]
      rw [if_pos (by omega), if_pos (by omega), if_pos (by omega), rd_nat, hm, if_pos (by omega), if_pos (by omega), e1, e2, if_pos (by omega), if_pos (by omega), if_pos (by omega), hw, Int.toNat_natCast, rd_nat]
    · obtain ⟨r, h1, h2⟩ := ih (i + 1) s (by omega) hs hW (fun j => by
        rw [hj, htk]
        unfold among
        by_cases hj4 : j < 4096
        · have : ¬ ((j : Int) = l.getD i 0) := fun e => hin (by rw [← e]; omega)
          simp only [List.getD_eq_getElem?_getD] at this
          simp [this]
        · simp [hj4])
      refine ⟨r, Ev.step (fun k => ?_) h1, h2⟩
      simp only [bits_Of.l0]
      rw [if_pos (by omega), if_pos (by omega), if_pos (by omega), rd_nat, hw]
      by_cases h0 : 0 ≤ l.getD i 0
      · rw [if_pos h0, if_neg (by omega)]
      · rw [if_neg h0]
theorem of_f (l : List Int) (hl : l.length ≤ 9223372036854775806) (hb : ∀ x ∈ l, -9223372036854775808 ≤ x ∧ x ≤ 9223372036854775807) : ∃ r, Ev (fun k => bits_Of.f k l) r ∧ Wd r ∧ r.length ≤ 64 ∧ ∀ j, bitAt r j = among l j := by
  obtain ⟨r, h1, h2⟩ := of_ev l hl hb l.length 0 (List.replicate 64 0) (by omega) (by simp) (Wd.replicate 64) (fun j => by rw [bitAt_replicate]; simp [among])
  refine ⟨r, Ev.congr (fun k => ?_) h1, h2⟩
  unfold bits_Of.f
  rw [if_pos (by omega)]
  rfl

theorem at_f {l : List Int} {i : Nat} : bits_at.f l (i : Int) = some (l.getD i 0) := by
  unfold bits_at.f
  by_cases h : i < l.length
  · rw [if_pos (by omega), if_pos (by omega), rd_nat]
  · rw [if_neg (by omega), List.getD_eq_getElem?_getD, List.getElem?_eq_none (by omega)]; rfl
theorem or_ev (a b : List Int) (ha : Wd a) (hb : Wd b) (n : Nat) (hn : n < 17592186044416) : ∀ (d i : Nat) (s : List Int), d + i = n → s.length = n → Wd s → (∀ j, j < i → ∀ q, (s.getD j 0).toNat.testBit q = ((a.getD j 0).toNat.testBit q || (b.getD j 0).toNat.testBit q)) →
    ∃ r, Ev (fun k => bits_Or.l0 k a b s (n : Int) (i : Int)) r ∧ Wd r ∧ r.length ≤ n ∧ ∀ j, j / 64 < n → bitAt r j = (bitAt a j || bitAt b j) := by
  intro d
  induction d with
  | zero =>
    intro i s hd hs hW hj
    obtain ⟨r, h1, h2, h3, h4⟩ := short_f hW (by omega)
    refine ⟨r, ?_, h2, by omega, fun j hjn => by rw [h4]; exact hj _ (by omega) _⟩
    refine Ev.step (f := fun k => (bits_short.f k s).bind fun t => some t) (fun k => ?_) (Ev.bind h1 (Ev.now r))
    simp only [bits_Or.l0]
    rw [if_neg (by omega)]
  | succ d ih =>
    intro i s hd hs hW hj
    have ho := or_word (ha.getD i).1 (ha.getD i).2 (hb.getD i).1 (hb.getD i).2
    obtain ⟨r, h1, h2⟩ := ih (i + 1) (s.set i (Go.bits .or .u64 (a.getD i 0) (b.getD i 0))) (by omega) (by simpa using hs) (hW.set i ho.1 ho.2.1) (fun j hji q => by
      rw [getD_set _ _ _ _ (by omega)]
      by_cases e : i = j
      · subst e; rw [if_pos rfl]; exact ho.2.2 q
      · rw [if_neg e]; exact hj j (by omega) q)
    refine ⟨r, Ev.step (fun k => ?_) h1, h2⟩
    simp only [bits_Or.l0]
    rw [if_pos (by omega), at_f, at_f]
    simp only [Option.bind_some]
    rw [if_pos (by omega), if_pos (by omega), Int.toNat_natCast, wr1 (by omega)]
theorem or_f {a b : List Int} (ha : Wd a) (hb : Wd b) (hla : a.length < 17592186044416) (hlb : b.length < 17592186044416) : ∃ r, Ev (fun k => bits_Or.f k a b) r ∧ Wd r ∧ r.length ≤ max a.length b.length ∧ ∀ j, bitAt r j = (bitAt a j || bitAt b j) := by
  have hmx : mx (a.length : Int) (b.length : Int) = ((max a.length b.length : Nat) : Int) := by unfold mx; split <;> omega
  obtain ⟨r, h1, h2, h3, h4⟩ := or_ev a b ha hb (max a.length b.length) (by omega) (max a.length b.length) 0 (List.replicate (max a.length b.length) 0) (by omega) (by simp) (Wd.replicate _) (fun j hj => by omega)
  refine ⟨r, Ev.congr (fun k => ?_) h1, h2, h3, fun j => ?_⟩
  · unfold bits_Or.f
    rw [hmx, if_pos (by omega), if_pos (by omega), Int.toNat_natCast]
    simp only [Option.bind_some]
    rw [List.length_replicate]
    rfl
  · by_cases hj : j / 64 < max a.length b.length
    · exact h4 j hj
    · rw [bitAt_ge (by omega), bitAt_ge (by omega), bitAt_ge (by omega)]; rfl
theorem with_f {a : List Int} (ha : Wd a) (hla : a.length ≤ 64) {i : Nat} (hi : i < 4096) : ∃ r, Ev (fun k => bits_With.f k a (i : Int)) r ∧ Wd r ∧ r.length ≤ 64 ∧ ∀ j, bitAt r j = (bitAt a j || j == i) := by
  obtain ⟨s, h1, h2, h3, h4⟩ := of_f [(i : Int)] (by simp) (fun x hx => by rw [List.mem_singleton] at hx; omega)
  obtain ⟨r, k1, k2, k3, k4⟩ := or_f ha h2 (by omega) (by omega)
  refine ⟨r, ?_, k2, by omega, fun j => ?_⟩
  · exact Ev.bind h1 (Ev.bind k1 (Ev.now r))
  · rw [k4, h4]
    congr 1
    unfold among
    by_cases e : j = i
    · subst e; simp [hi]
    · have : (j : Int) ≠ (i : Int) := by omega
      simp only [List.contains_cons, List.contains_nil, Bool.or_false]
      rw [beq_eq_false_iff_ne.2 this, beq_eq_false_iff_ne.2 e, Bool.and_false]
end Go.Proofs.Ytfkmngmnnlgjdaa.Gr
