/- The document's parts and shell: plain facts on the printed functions. -/
import Derived.Test.YtfkmngmnnlgjdaaPuRef
namespace Go.Proofs.Ytfkmngmnnlgjdaa.Pr
open Go Go.RowKit Go.Proofs.Ytfkmngmnnlgjdaa.Gf Go.Proofs.Ytfkmngmnnlgjdaa.Pu Go.Proofs.Ytfkmngmnnlgjdaa.Gr Go.Proofs.YtfkmngmnnlgjdaaW.PrintWords
variable {n : Nat} {adj : Adj} {on : List Bool}
open Classical in
theorem comp_first (hS : Sane n adj) {a : Nat} (ha : a < n) : ∃ c l, comp n adj a = c :: l ∧ (c = a ↔ Least adj a) := by
  have hm : a ∈ comp n adj a := (mem_comp hS ha).2 .refl
  cases hc : comp n adj a with
  | nil => rw [hc] at hm; cases hm
  | cons c l =>
    refine ⟨c, l, rfl, ?_⟩
    have h1 : (comp n adj a).head? = some c := by rw [hc]; rfl
    unfold comp at h1
    rw [List.head?_filter, List.find?_range_eq_some] at h1
    obtain ⟨h2, h3, h4⟩ := h1
    rw [decide_eq_true_iff] at h2
    have h5 : ∀ j, j < c → ¬ Pu.Reach adj a j := fun j hj hr => by
      have := h4 j hj
      rw [decide_eq_true hr] at this
      exact absurd this (by decide)
    constructor
    · rintro rfl j hj hr
      exact h5 j hj (hr.symm hS)
    · intro hL
      by_cases e : c < a
      · exact absurd (h2.symm hS) (hL c e)
      · by_cases e2 : a < c
        · exact absurd .refl (h5 a e2)
        · omega
theorem parts_ev (h : RefOf n adj on) : ∀ d i : Nat, d + i = n → Ev (fun k => horariumref23_Parts.l0 k ((partsTo n adj i).map nats) i n on) ((parts n adj).map nats) := by
  have hn := h.le
  intro d
  induction d with
  | zero =>
    intro i hi
    obtain rfl : i = n := by omega
    refine Ev.step (f := fun _ => some _) (fun k => ?_) (Ev.now _)
    simp only [horariumref23_Parts.l0]
    rw [if_neg (by omega)]
    rfl
  | succ d ih =>
    intro i hi
    obtain ⟨c, l, hc, hcl⟩ := comp_first h.sane (show i < n by omega)
    have hpl := partsTo_length n adj i
    have hrun : ∀ k, horariumref23_Parts.l0 (k + 1) ((partsTo n adj i).map nats) i n on = (horariumref23_from.f k n on i).bind fun t => if 0 < (t.length : Int) then (if rd t 0 = (i : Int) then horariumref23_Parts.l0 k ((partsTo n adj i).map nats ++ [t]) ((i + 1 : Nat) : Int) n on else horariumref23_Parts.l0 k ((partsTo n adj i).map nats) ((i + 1 : Nat) : Int) n on) else none := by
      intro k
      simp only [horariumref23_Parts.l0]
      rw [if_pos (by omega), wr1 (by omega)]
      simp only [if_pos (show ((partsTo n adj i).map nats).length < 5864062014805 by rw [List.length_map]; omega)]
    refine Ev.step hrun (Ev.bind (from_f h (by omega)) ?_)
    have h0 : rd (nats (comp n adj i)) 0 = (c : Int) := by rw [hc]; rfl
    have h1 : 0 < ((nats (comp n adj i)).length : Int) := by rw [hc, nats_length, List.length_cons]; omega
    have hrest := ih (i + 1) (by omega)
    by_cases hL : Least adj i
    · rw [partsTo_yes hL, List.map_append] at hrest
      refine Ev.congr (fun k => ?_) hrest
      rw [if_pos h1, h0, if_pos (by rw [hcl.2 hL])]
      rfl
    · rw [partsTo_no hL] at hrest
      refine Ev.congr (fun k => ?_) hrest
      rw [if_pos h1, h0, if_neg (fun e => hL (hcl.1 (by omega)))]
theorem parts_f (h : RefOf n adj on) : Ev (fun k => horariumref23_Parts.f k n on) ((parts n adj).map nats) := parts_ev h n 0 rfl
theorem flen_succ (P : Nat → Bool) (i : Nat) : ((List.range (i + 1)).filter P).length = ((List.range i).filter P).length + (if P i then 1 else 0) := by
  rw [List.range_succ, List.filter_append, List.length_append]
  cases h : P i <;> simp [h]
theorem degree_ev (h : RefOf n adj on) (out : List Nat) (hout : out.length ≤ 400) {a : Nat} (ha : a < n) : ∀ d i : Nat, d + i = n → Ev (fun k => horariumref23_degree.l0 k (nats out) a ((((List.range i).filter (fun b => adj a b && !out.contains b)).length : Nat) : Int) i n on) ((deg n adj out a : Nat) : Int) := by
  have hn := h.le
  intro d
  induction d with
  | zero =>
    intro i hi
    obtain rfl : i = n := by omega
    refine Ev.step (f := fun _ => some _) (fun k => ?_) (Ev.now _)
    simp only [horariumref23_degree.l0]
    rw [if_neg (by omega)]
    rfl
  | succ d ih =>
    intro i hi
    have hfl : ((List.range i).filter (fun b => adj a b && !out.contains b)).length ≤ i := Nat.le_trans (List.length_filter_le _ _) (by rw [List.length_range]; exact Nat.le_refl _)
    have hs := flen_succ (fun b => adj a b && !out.contains b) i
    have hrest := ih (i + 1) (by omega)
    rw [hs] at hrest
    clear hs
    generalize ((List.range i).filter (fun b => adj a b && !out.contains b)).length = m at hfl hrest ⊢
    have hrun : ∀ k, horariumref23_degree.l0 (k + 1) (nats out) a (m : Int) i n on = if adj a i = true then ((horariumref14_Has.f k (nats out) i).bind fun t => if t = true then horariumref23_degree.l0 k (nats out) a m ((i + 1 : Nat) : Int) n on else horariumref23_degree.l0 k (nats out) a ((m + 1 : Nat) : Int) ((i + 1 : Nat) : Int) n on) else horariumref23_degree.l0 k (nats out) a m ((i + 1 : Nat) : Int) n on := by
      intro k
      simp only [horariumref23_degree.l0]
      rw [if_pos (by omega), has_f h, Option.bind_some, hasN_nat ha, wr1 (n := i) (by omega), wr1 (n := m) (by omega)]
    cases hadj : adj a i with
    | false =>
      rw [hadj] at hrest
      exact Ev.step (fun k => by rw [hrun, hadj]; exact if_neg (by decide)) hrest
    | true =>
      rw [hadj] at hrest
      refine Ev.step (fun k => by rw [hrun, hadj]; exact if_pos rfl) (Ev.bind (among_f (nats out) i (by rw [nats_length]; omega)) ?_)
      rw [contains_nats]
      cases hc : out.contains i with
      | true => rw [hc] at hrest; simpa using hrest
      | false => rw [hc] at hrest; simpa using hrest
theorem degree_f (h : RefOf n adj on) (out : List Nat) (hout : out.length ≤ 400) {a : Nat} (ha : a < n) : Ev (fun k => horariumref23_degree.f k n on (nats out) a) ((deg n adj out a : Nat) : Int) := degree_ev h out hout ha n 0 rfl
theorem best_ev (h : RefOf n adj on) (out : List Nat) (hout : out.length < n) (R : List Int) (hR : ∀ q, bst n adj out n = some q → Ev (fun k => horariumref23_Shell.l0 k (nats out ++ [(q : Int)]) n on) R) : ∀ d i : Nat, d + i = n → Ev (fun k => horariumref23_Shell.l1 k (nats out) (bestI (bst n adj out i)) i n on) R := by
  have hn := h.le
  intro d
  induction d with
  | zero =>
    intro i hi
    obtain rfl : i = n := by omega
    obtain ⟨q, hq⟩ := bst_fresh (adj := adj) hout
    refine Ev.step (fun k => ?_) (hR q hq)
    simp only [horariumref23_Shell.l1, nats_length]
    rw [if_neg (by omega), if_pos (by omega), hq]
    rfl
  | succ d ih =>
    intro i hi
    have hrest := ih (i + 1) (by omega)
    have hrun : ∀ k, horariumref23_Shell.l1 (k + 1) (nats out) (bestI (bst n adj out i)) i n on = (horariumref14_Has.f k (nats out) i).bind fun t => if t = true then horariumref23_Shell.l1 k (nats out) (bestI (bst n adj out i)) ((i + 1 : Nat) : Int) n on else if bestI (bst n adj out i) < 0 then horariumref23_Shell.l1 k (nats out) i ((i + 1 : Nat) : Int) n on else (horariumref23_degree.f k n on (nats out) i).bind fun t215 => (horariumref23_degree.f k n on (nats out) (bestI (bst n adj out i))).bind fun t216 => if t215 < t216 then horariumref23_Shell.l1 k (nats out) i ((i + 1 : Nat) : Int) n on else horariumref23_Shell.l1 k (nats out) (bestI (bst n adj out i)) ((i + 1 : Nat) : Int) n on := by
      intro k
      simp only [horariumref23_Shell.l1]
      rw [if_pos (by omega), wr1 (by omega)]
    refine Ev.step hrun (Ev.bind (among_f (nats out) i (by rw [nats_length]; omega)) ?_)
    rw [contains_nats]
    cases hc : out.contains i with
    | true =>
      have hb : bst n adj out (i + 1) = bst n adj out i := by simp only [bst, hc, if_true]
      rw [hb] at hrest
      exact Ev.congr (fun k => if_pos rfl) hrest
    | false =>
      refine Ev.congr (fun k => if_neg (by decide)) ?_
      cases hb0 : bst n adj out i with
      | none =>
        have hb : bst n adj out (i + 1) = some i := by simp only [bst, hc, hb0]; rfl
        rw [hb] at hrest
        exact Ev.congr (fun k => if_pos (by decide)) hrest
      | some q =>
        obtain ⟨hq1, hq2, _⟩ := bst_some hb0
        refine Ev.congr (fun k => if_neg (by show ¬ (q : Int) < 0; omega)) ?_
        refine Ev.bind (degree_f h out (by omega) (by omega)) (Ev.bind (degree_f h out (by omega) (show q < n by omega)) ?_)
        by_cases hlq : deg n adj out i < deg n adj out q
        · have hb : bst n adj out (i + 1) = some i := by simp only [bst, hc, hb0]; simp [hlq]
          rw [hb] at hrest
          exact Ev.congr (fun k => if_pos (by omega)) hrest
        · have hb : bst n adj out (i + 1) = some q := by simp only [bst, hc, hb0]; simp [hlq]
          rw [hb] at hrest
          exact Ev.congr (fun k => if_neg (by omega)) hrest
theorem shell_ev (h : RefOf n adj on) : ∀ d j : Nat, d + j = n → Ev (fun k => horariumref23_Shell.l0 k (nats (shl n adj j)) n on) (nats (shell n adj)) := by
  have hn := h.le
  intro d
  induction d with
  | zero =>
    intro j hj
    obtain rfl : j = n := by omega
    refine Ev.step (f := fun _ => some _) (fun k => ?_) (Ev.now _)
    simp only [horariumref23_Shell.l0, nats_length, shl_length]
    rw [if_neg (by omega)]
    rfl
  | succ d ih =>
    intro j hj
    have hl := shl_length n adj j
    refine Ev.step (fun k => ?_) (best_ev h (shl n adj j) (by omega) (nats (shell n adj)) (fun q hq => ?_) n 0 rfl)
    · simp only [horariumref23_Shell.l0, nats_length, hl]
      rw [if_pos (by omega)]
      rfl
    · have := ih (j + 1) (by omega)
      obtain ⟨q', hs, hb⟩ := shl_succ (adj := adj) (show j < n by omega)
      rw [hq] at hb
      injection hb with hb
      subst hb
      rw [hs] at this
      simpa [nats] using this
theorem shell_f (h : RefOf n adj on) : Ev (fun k => horariumref23_Shell.f k n on) (nats (shell n adj)) := shell_ev h n 0 (by omega)
end Go.Proofs.Ytfkmngmnnlgjdaa.Pr
