/- Plain facts on graphs: neighbours, what can be come to from a node, the parts, the shell. No program in sight. -/
namespace Go.Proofs.Ytfkmngmnnlgjdaa.Pu

theorem nodup_sub (l m : List Nat) (h : l.Nodup) (hs : ∀ x ∈ l, x ∈ m) : l.length ≤ m.length := List.Nodup.length_le_of_subset h hs

/-- A graph's joins. -/
abbrev Adj := Nat → Nat → Bool
/-- Each join both ways, none of a node with itself, all below n. -/
structure Sane (n : Nat) (adj : Adj) : Prop where
  sym : ∀ a b, adj a b = adj b a
  irr : ∀ a, adj a a = false
  lt : ∀ a b, adj a b = true → a < n
theorem Sane.lt2 {n : Nat} {adj : Adj} (h : Sane n adj) {a b : Nat} (hab : adj a b = true) : b < n := h.lt b a (by rw [h.sym]; exact hab)
/-- One join more. -/
def put (adj : Adj) (a b : Nat) : Adj := fun x y => adj x y || (x == a && y == b) || (x == b && y == a)
theorem Sane.put {n : Nat} {adj : Adj} (h : Sane n adj) {a b : Nat} (ha : a < n) (hb : b < n) (hab : a ≠ b) : Sane n (put adj a b) where
  sym x y := by
    unfold Pu.put
    rw [h.sym x y]
    cases adj y x <;> cases h1 : x == a <;> cases h2 : y == b <;> cases h3 : x == b <;> cases h4 : y == a <;> rfl
  irr x := by
    unfold Pu.put
    rw [h.irr x]
    by_cases h1 : x = a
    · have : (x == b) = false := by rw [beq_eq_false_iff_ne]; omega
      rw [this]; simp
    · have : (x == a) = false := by rw [beq_eq_false_iff_ne]; exact h1
      rw [this]; simp
  lt x y hxy := by
    unfold Pu.put at hxy
    simp only [Bool.or_eq_true, Bool.and_eq_true, beq_iff_eq] at hxy
    rcases hxy with (hxy | hxy) | hxy
    · exact h.lt x y hxy
    · omega
    · omega
theorem sane_none (n : Nat) : Sane n (fun _ _ => false) := ⟨fun _ _ => rfl, fun _ => rfl, fun _ _ h => by cases h⟩

/-- Neighbours, rising. -/
def near (n : Nat) (adj : Adj) (a : Nat) : List Nat := (List.range n).filter (adj a)
/-- Whole numbers. -/
def nats (l : List Nat) : List Int := l.map Int.ofNat
theorem mem_near {n : Nat} {adj : Adj} (h : Sane n adj) {a b : Nat} : b ∈ near n adj a ↔ adj a b = true := by
  unfold near
  rw [List.mem_filter, List.mem_range]
  exact ⟨fun h => h.2, fun hb => ⟨h.lt2 hb, hb⟩⟩
theorem near_nodup (n : Nat) (adj : Adj) (a : Nat) : (near n adj a).Nodup := List.Pairwise.filter _ List.nodup_range

/-- What can be come to. -/
inductive Reach (adj : Adj) (a : Nat) : Nat → Prop where
  | refl : Reach adj a a
  | step {b c : Nat} : Reach adj a b → adj b c = true → Reach adj a c
theorem Reach.trans {adj : Adj} {a b c : Nat} (h : Reach adj a b) (k : Reach adj b c) : Reach adj a c := by
  induction k with
  | refl => exact h
  | step _ hs ih => exact ih.step hs
theorem Reach.symm {n : Nat} {adj : Adj} (hS : Sane n adj) {a b : Nat} (h : Reach adj a b) : Reach adj b a := by
  induction h with
  | refl => exact .refl
  | step _ hs ih => exact (Reach.step .refl (by rw [hS.sym]; exact hs)).trans ih
theorem Reach.lt {n : Nat} {adj : Adj} (hS : Sane n adj) {a b : Nat} (h : Reach adj a b) (ha : a < n) : b < n := by
  induction h with
  | refl => exact ha
  | step _ hs _ => exact hS.lt2 hs
/-- A set that has a node and is shut under joins has all that can be come to. -/
theorem Reach.inside {adj : Adj} {a b : Nat} {I : Nat → Prop} (h : Reach adj a b) (ha : I a) (hs : ∀ x y, I x → adj x y = true → I y) : I b := by
  induction h with
  | refl => exact ha
  | step _ h1 ih => exact hs _ _ ih h1

open Classical in
/-- A node's part, rising. -/
noncomputable def comp (n : Nat) (adj : Adj) (a : Nat) : List Nat := (List.range n).filter (fun b => decide (Reach adj a b))
/-- Is a node the least of its part? -/
def Least (adj : Adj) (a : Nat) : Prop := ∀ b, b < a → ¬ Reach adj b a
open Classical in
/-- The parts of the nodes below k that are least in theirs. -/
noncomputable def partsTo (n : Nat) (adj : Adj) (k : Nat) : List (List Nat) := ((List.range k).filter (fun a => decide (Least adj a))).map (comp n adj)
noncomputable def parts (n : Nat) (adj : Adj) : List (List Nat) := partsTo n adj n
theorem partsTo_zero (n : Nat) (adj : Adj) : partsTo n adj 0 = [] := rfl
open Classical in
theorem partsTo_yes {n : Nat} {adj : Adj} {k : Nat} (h : Least adj k) : partsTo n adj (k + 1) = partsTo n adj k ++ [comp n adj k] := by
  unfold partsTo
  rw [List.range_succ, List.filter_append, List.map_append]
  simp [h]
open Classical in
theorem partsTo_no {n : Nat} {adj : Adj} {k : Nat} (h : ¬ Least adj k) : partsTo n adj (k + 1) = partsTo n adj k := by
  unfold partsTo
  rw [List.range_succ, List.filter_append, List.map_append]
  simp [h]
open Classical in
theorem partsTo_length (n : Nat) (adj : Adj) (k : Nat) : (partsTo n adj k).length ≤ k := by
  unfold partsTo
  rw [List.length_map]
  exact Nat.le_trans (List.length_filter_le _ _) (by rw [List.length_range]; exact Nat.le_refl _)
open Classical in
theorem mem_comp {n : Nat} {adj : Adj} (hS : Sane n adj) {a b : Nat} (ha : a < n) : b ∈ comp n adj a ↔ Reach adj a b := by
  unfold comp
  rw [List.mem_filter, List.mem_range, decide_eq_true_iff]
  exact ⟨fun h => h.2, fun h => ⟨h.lt hS ha, h⟩⟩
open Classical in
theorem comp_eq {n : Nat} {adj : Adj} {a : Nat} {I : Nat → Bool} (hI : ∀ b, I b = true ↔ Reach adj a b) : (List.range n).filter I = comp n adj a := by
  unfold comp
  apply List.filter_congr
  intro b _
  cases h : I b with
  | true => exact (decide_eq_true ((hI b).1 h)).symm
  | false =>
    refine (decide_eq_false (fun hr => ?_)).symm
    rw [(hI b).2 hr] at h
    cases h

/-! ### the search from a node: a set, and a row of nodes whose neighbours are still to be looked at -/
/-- A set with one more. -/
def also (I : Nat → Bool) (y : Nat) : Nat → Bool := fun x => I x || x == y
theorem also_self (I : Nat → Bool) (y : Nat) : also I y y = true := by simp [also]
theorem also_old {I : Nat → Bool} {x : Nat} (y : Nat) (h : I x = true) : also I y x = true := by simp [also, h]
theorem also_cases {I : Nat → Bool} {x y : Nat} (h : also I y x = true) : I x = true ∨ x = y := by simpa [also] using h
structure Bfs (adj : Adj) (a : Nat) (I : Nat → Bool) (wk : List Nat) : Prop where
  here : I a = true
  reach : ∀ x, I x = true → Reach adj a x
  onWk : ∀ x ∈ wk, I x = true
  shut : ∀ x y, I x = true → x ∉ wk → adj x y = true → I y = true
structure BfsIn (adj : Adj) (a : Nat) (I : Nat → Bool) (wk : List Nat) (x : Nat) (done : List Nat) : Prop where
  here : I a = true
  reach : ∀ x, I x = true → Reach adj a x
  onWk : ∀ x ∈ wk, I x = true
  ix : I x = true
  shut : ∀ z y, I z = true → z ∉ wk → z ≠ x → adj z y = true → I y = true
  done : ∀ y ∈ done, I y = true
theorem Bfs.start (adj : Adj) (a : Nat) : Bfs adj a (fun x => x == a) [a] where
  here := by simp
  reach x hx := by
    obtain rfl : x = a := by simpa using hx
    exact .refl
  onWk x hx := by simpa using hx
  shut x y hx hn := by
    obtain rfl : x = a := by simpa using hx
    simp at hn
theorem Bfs.pop {adj : Adj} {a : Nat} {I : Nat → Bool} {x : Nat} {wk : List Nat} (h : Bfs adj a I (x :: wk)) : BfsIn adj a I wk x [] where
  here := h.here
  reach := h.reach
  onWk y hy := h.onWk y (List.mem_cons_of_mem _ hy)
  ix := h.onWk x List.mem_cons_self
  shut z y hz hn hx := h.shut z y hz (by simp [hn, hx])
  done y hy := by cases hy
theorem BfsIn.old {adj : Adj} {a : Nat} {I : Nat → Bool} {wk : List Nat} {x : Nat} {done : List Nat} (h : BfsIn adj a I wk x done) {y : Nat} (hy : I y = true) : BfsIn adj a I wk x (done ++ [y]) :=
  ⟨h.here, h.reach, h.onWk, h.ix, h.shut, fun z hz => by
    rcases List.mem_append.1 hz with hz | hz
    · exact h.done z hz
    · rw [List.mem_singleton] at hz; subst hz; exact hy⟩
theorem BfsIn.new {adj : Adj} {a : Nat} {I : Nat → Bool} {wk : List Nat} {x : Nat} {done : List Nat} (h : BfsIn adj a I wk x done) {y : Nat} (hxy : adj x y = true) : BfsIn adj a (also I y) (wk ++ [y]) x (done ++ [y]) where
  here := also_old y h.here
  reach z hz := by
    rcases also_cases hz with hz | rfl
    · exact h.reach z hz
    · exact (h.reach x h.ix).step hxy
  onWk z hz := by
    rcases List.mem_append.1 hz with hz | hz
    · exact also_old y (h.onWk z hz)
    · rw [List.mem_singleton] at hz; subst hz; exact also_self I z
  ix := also_old y h.ix
  shut z u hz hn hx hu := by
    rcases also_cases hz with hz | rfl
    · exact also_old y (h.shut z u hz (fun hm => hn (List.mem_append_left _ hm)) hx hu)
    · exact absurd (List.mem_append_right _ (List.mem_singleton.2 rfl)) hn
  done z hz := by
    rcases List.mem_append.1 hz with hz | hz
    · exact also_old y (h.done z hz)
    · rw [List.mem_singleton] at hz; subst hz; exact also_self I z
theorem BfsIn.over {n : Nat} {adj : Adj} (hS : Sane n adj) {a : Nat} {I : Nat → Bool} {wk : List Nat} {x : Nat} (h : BfsIn adj a I wk x (near n adj x)) : Bfs adj a I wk where
  here := h.here
  reach := h.reach
  onWk := h.onWk
  shut z y hz hn hzy := by
    by_cases hx : z = x
    · subst hx; exact h.done y ((mem_near hS).2 hzy)
    · exact h.shut z y hz hn hx hzy
theorem Bfs.all {adj : Adj} {a : Nat} {I : Nat → Bool} (h : Bfs adj a I []) (b : Nat) : I b = true ↔ Reach adj a b :=
  ⟨h.reach b, fun hr => hr.inside (I := fun x => I x = true) h.here (fun x y hx hxy => h.shut x y hx (by simp) hxy)⟩
/-- How many nodes are not in a set. -/
def cnt (n : Nat) (I : Nat → Bool) : Nat := ((List.range n).filter (fun x => !I x)).length
theorem cnt_also {n : Nat} {I : Nat → Bool} {y : Nat} (hy : y < n) (hI : I y = false) : cnt n (also I y) + 1 = cnt n I := by
  unfold cnt
  have key : ∀ m, ((List.range m).filter (fun x => !also I y x)).length + (if y < m then 1 else 0) = ((List.range m).filter (fun x => !I x)).length := by
    intro m
    induction m with
    | zero => simp
    | succ m ih =>
      rw [List.range_succ, List.filter_append, List.length_append, List.filter_append, List.length_append]
      by_cases hm : m = y
      · subst hm
        rw [if_neg (by omega)] at ih
        simp only [List.filter_cons, List.filter_nil, also_self, hI]
        simp
        omega
      · have e1 : also I y m = I m := by simp [also, hm]
        simp only [List.filter_cons, List.filter_nil, e1]
        have e3 : (if y < m + 1 then 1 else 0) = (if y < m then 1 else 0) := by
          by_cases h1 : y < m
          · rw [if_pos h1, if_pos (by omega)]
          · rw [if_neg h1, if_neg (by omega)]
        rw [e3]
        omega
  have := key n
  rw [if_pos hy] at this
  exact this
theorem cnt_le (n : Nat) (I : Nat → Bool) : cnt n I ≤ n := by
  unfold cnt
  exact Nat.le_trans (List.length_filter_le _ _) (by rw [List.length_range]; exact Nat.le_refl _)

/-- The search that keeps all that it has met in one row; the first i of them have been looked at. -/
structure Srch (n : Nat) (adj : Adj) (a : Nat) (l : List Nat) (i : Nat) : Prop where
  here : a ∈ l
  nodup : l.Nodup
  reach : ∀ x ∈ l, Reach adj a x
  lt : ∀ x ∈ l, x < n
  le : i ≤ l.length
  shut : ∀ j, j < i → ∀ y, adj (l.getD j 0) y = true → y ∈ l
theorem nodup_le {l : List Nat} {n : Nat} (h : l.Nodup) (hl : ∀ x ∈ l, x < n) : l.length ≤ n := by
  have h2 := nodup_sub l (List.range n) h (fun x hx => List.mem_range.2 (hl x hx))
  rwa [List.length_range] at h2
theorem Srch.all {n : Nat} {adj : Adj} {a : Nat} {l : List Nat} (h : Srch n adj a l l.length) (b : Nat) : b ∈ l ↔ Reach adj a b :=
  ⟨h.reach b, fun hr => hr.inside (I := fun x => x ∈ l) h.here (fun x y hx hxy => by
    obtain ⟨j, hj, he⟩ := List.getElem_of_mem hx
    refine h.shut j hj y ?_
    rw [List.getD_eq_getElem?_getD, List.getElem?_eq_getElem hj, Option.getD_some, he]
    exact hxy)⟩

/-- How many neighbours a node has among those that are not out. -/
def deg (n : Nat) (adj : Adj) (out : List Nat) (a : Nat) : Nat := ((List.range n).filter (fun b => adj a b && !out.contains b)).length
/-- The first of the nodes below k that are not out with the fewest such neighbours. -/
def bst (n : Nat) (adj : Adj) (out : List Nat) : Nat → Option Nat
  | 0 => none
  | k + 1 => if out.contains k then bst n adj out k else match bst n adj out k with
    | none => some k
    | some q => if deg n adj out k < deg n adj out q then some k else some q
def shl (n : Nat) (adj : Adj) : Nat → List Nat
  | 0 => []
  | k + 1 => shl n adj k ++ [(bst n adj (shl n adj k) n).getD 0]
def shell (n : Nat) (adj : Adj) : List Nat := shl n adj n
theorem shl_length (n : Nat) (adj : Adj) (k : Nat) : (shl n adj k).length = k := by
  induction k with
  | zero => rfl
  | succ k ih => simp [shl, ih]
theorem bst_some {n : Nat} {adj : Adj} {out : List Nat} {k q : Nat} (h : bst n adj out k = some q) : q < k ∧ out.contains q = false ∧ ∀ b, b < k → out.contains b = false → deg n adj out q ≤ deg n adj out b := by
  induction k generalizing q with
  | zero => cases h
  | succ k ih =>
    unfold bst at h
    by_cases hk : out.contains k = true
    · rw [if_pos hk] at h
      obtain ⟨h1, h2, h3⟩ := ih h
      refine ⟨by omega, h2, fun b hb hbo => ?_⟩
      rcases Nat.lt_or_ge b k with hlt | hge
      · exact h3 b hlt hbo
      · obtain rfl : b = k := by omega
        rw [hk] at hbo; cases hbo
    · rw [if_neg hk] at h
      have hk' : out.contains k = false := by simpa using hk
      cases hp : bst n adj out k with
      | none =>
        rw [hp] at h
        injection h with h
        subst h
        refine ⟨by omega, hk', fun b hb hbo => ?_⟩
        rcases Nat.lt_or_ge b k with hlt | hge
        · exfalso
          clear ih hk hk'
          induction k with
          | zero => omega
          | succ j ihj =>
            unfold bst at hp
            by_cases hj : out.contains j = true
            · rw [if_pos hj] at hp
              rcases Nat.lt_or_ge b j with h1 | h1
              · exact ihj hp (by omega) h1
              · obtain rfl : b = j := by omega
                rw [hj] at hbo; cases hbo
            · rw [if_neg hj] at hp
              cases hq : bst n adj out j with
              | none => rw [hq] at hp; cases hp
              | some r => rw [hq] at hp; simp only at hp; split at hp <;> cases hp
        · obtain rfl : b = k := by omega
          exact Nat.le_refl _
      | some r =>
        rw [hp] at h
        obtain ⟨h1, h2, h3⟩ := ih hp
        simp only at h
        split at h
        · rename_i hlt
          injection h with h
          subst h
          refine ⟨by omega, hk', fun b hb hbo => ?_⟩
          rcases Nat.lt_or_ge b k with hbk | hge
          · have := h3 b hbk hbo; omega
          · obtain rfl : b = k := by omega
            exact Nat.le_refl _
        · rename_i hlt
          injection h with h
          subst h
          refine ⟨by omega, h2, fun b hb hbo => ?_⟩
          rcases Nat.lt_or_ge b k with hbk | hge
          · exact h3 b hbk hbo
          · obtain rfl : b = k := by omega
            omega
theorem bst_none {n : Nat} {adj : Adj} {out : List Nat} {k : Nat} (h : bst n adj out k = none) : ∀ b, b < k → out.contains b = true := by
  induction k with
  | zero => intro b hb; omega
  | succ k ih =>
    unfold bst at h
    by_cases hk : out.contains k = true
    · rw [if_pos hk] at h
      intro b hb
      rcases Nat.lt_or_ge b k with hlt | hge
      · exact ih h b hlt
      · obtain rfl : b = k := by omega
        exact hk
    · rw [if_neg hk] at h
      cases hp : bst n adj out k with
      | none => rw [hp] at h; cases h
      | some r => rw [hp] at h; simp only at h; split at h <;> cases h
/-- Fewer than n different nodes: one is not among them. -/
theorem exists_fresh {out : List Nat} {n : Nat} (h : out.length < n) : ∃ b, b < n ∧ out.contains b = false := by
  apply Classical.byContradiction
  intro hno
  have hall : ∀ b, b < n → b ∈ out := by
    intro b hb
    apply Classical.byContradiction
    intro hn
    exact hno ⟨b, hb, by simpa using hn⟩
  have h2 := nodup_sub (List.range n) out List.nodup_range (fun b hb => hall b (List.mem_range.1 hb))
  rw [List.length_range] at h2
  omega
theorem bst_fresh {n : Nat} {adj : Adj} {out : List Nat} (h : out.length < n) : ∃ q, bst n adj out n = some q := by
  cases hb : bst n adj out n with
  | some q => exact ⟨q, rfl⟩
  | none =>
    obtain ⟨b, hb1, hb2⟩ := exists_fresh h
    rw [bst_none hb b hb1] at hb2
    cases hb2
/-- The shell's k-th node. -/
theorem shl_succ {n : Nat} {adj : Adj} {k : Nat} (hk : k < n) : ∃ q, shl n adj (k + 1) = shl n adj k ++ [q] ∧ bst n adj (shl n adj k) n = some q := by
  obtain ⟨q, hq⟩ := bst_fresh (adj := adj) (out := shl n adj k) (n := n) (by rw [shl_length]; exact hk)
  exact ⟨q, by simp [shl, hq], hq⟩
theorem shl_nodup {n : Nat} {adj : Adj} {k : Nat} (hk : k ≤ n) : (shl n adj k).Nodup ∧ ∀ x ∈ shl n adj k, x < n := by
  induction k with
  | zero => exact ⟨List.nodup_nil, fun x hx => by cases hx⟩
  | succ k ih =>
    obtain ⟨h1, h2⟩ := ih (by omega)
    obtain ⟨q, he, hb⟩ := shl_succ (n := n) (adj := adj) (k := k) (by omega)
    obtain ⟨hq1, hq2, _⟩ := bst_some hb
    rw [he]
    have hqm : q ∉ shl n adj k := by simpa using hq2
    refine ⟨?_, fun x hx => ?_⟩
    · rw [List.nodup_append]
      refine ⟨h1, by simp, fun x hx y hy => ?_⟩
      rw [List.mem_singleton] at hy
      subst hy
      intro e
      subst e
      exact hqm hx
    · rcases List.mem_append.1 hx with hx | hx
      · exact h2 x hx
      · rw [List.mem_singleton] at hx; subst hx; exact hq1
/-- One more out: a neighbour of it has one neighbour less. -/
theorem deg_snoc {n : Nat} {adj : Adj} (hS : Sane n adj) {out : List Nat} {q a : Nat} (hq : out.contains q = false) : deg n adj (out ++ [q]) a + (if adj a q = true then 1 else 0) = deg n adj out a := by
  unfold deg
  by_cases haq : adj a q = true
  · rw [if_pos haq]
    have hqn : q < n := hS.lt2 haq
    have key : ∀ m, (((List.range m).filter (fun b => adj a b && !(out ++ [q]).contains b)).length + (if q < m then 1 else 0)) = ((List.range m).filter (fun b => adj a b && !out.contains b)).length := by
      intro m
      induction m with
      | zero => simp
      | succ m ih =>
        rw [List.range_succ, List.filter_append, List.length_append, List.filter_append, List.length_append]
        by_cases hm : m = q
        · subst hm
          rw [if_neg (by omega)] at ih
          have e1 : (adj a m && !(out ++ [m]).contains m) = false := by simp
          have e2 : (adj a m && !out.contains m) = true := by rw [haq, hq]; rfl
          rw [List.filter_cons, List.filter_cons, e1, e2]
          rw [if_pos (by omega : m < m + 1)]
          simp only [Bool.false_eq_true, if_false, if_true, List.filter_nil, List.length_nil, List.length_singleton]
          omega
        · have e1 : (out ++ [q]).contains m = out.contains m := by
            rw [List.contains_eq_mem, List.contains_eq_mem]
            apply decide_eq_decide.2
            simp [hm]
          simp only [List.filter_cons, List.filter_nil, e1]
          have e3 : (if q < m + 1 then 1 else 0) = (if q < m then 1 else 0) := by
            by_cases h1 : q < m
            · rw [if_pos h1, if_pos (by omega)]
            · rw [if_neg h1, if_neg (by omega)]
          rw [e3]
          omega
    have := key n
    rw [if_pos hqn] at this
    exact this
  · rw [if_neg haq, Nat.add_zero]
    congr 1
    apply List.filter_congr
    intro b _
    by_cases hbq : b = q
    · subst hbq
      have : adj a b = false := by simpa using haq
      rw [this]; rfl
    · congr 1
      rw [List.contains_eq_mem, List.contains_eq_mem]
      congr 1
      apply decide_eq_decide.2
      simp [hbq]
theorem deg_nil (n : Nat) (adj : Adj) (a : Nat) : deg n adj [] a = (near n adj a).length := by
  unfold deg near
  congr 1
  apply List.filter_congr
  intro b _
  simp
theorem deg_le (n : Nat) (adj : Adj) (out : List Nat) (a : Nat) : deg n adj out a ≤ n := by
  unfold deg
  exact Nat.le_trans (List.length_filter_le _ _) (by rw [List.length_range]; exact Nat.le_refl _)
end Go.Proofs.Ytfkmngmnnlgjdaa.Pu
