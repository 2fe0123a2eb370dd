/- What the document's functions on a graph's joins answer: plain facts on the printed functions. -/
import Derived.Test.YtfkmngmnnlgjdaaGfB
import Derived.Test.YtfkmngmnnlgjdaaGfA
import Derived.Test.YtfkmngmnnlgjdaaPuShell
import Derived.Test.YtfkmngmnnlgjdaaGr3
namespace Go.Proofs.Ytfkmngmnnlgjdaa.Pr
open Go Go.RowKit Go.Proofs.Ytfkmngmnnlgjdaa.Gf Go.Proofs.Ytfkmngmnnlgjdaa.Pu Go.Proofs.Ytfkmngmnnlgjdaa.Gr Go.Proofs.YtfkmngmnnlgjdaaW.PrintWords
theorem eq_of_getD {α : Type} (z : α) (l m : List α) (hlm : l.length = m.length) (h : ∀ j, j < l.length → l.getD j z = m.getD j z) : l = m := by
  refine List.ext_getElem hlm (fun j h1 h2 => ?_)
  have := h j h1
  rw [List.getD_eq_getElem?_getD, List.getD_eq_getElem?_getD, List.getElem?_eq_getElem h1, List.getElem?_eq_getElem h2] at this
  exact this
/-- Two rows of numbers. -/
theorem ints_ev (l m : List Int) (hlm : l.length = m.length) (hl : l.length ≤ 9223372036854775807) : ∀ d i : Nat, d + i = l.length → (∀ j, j < i → l.getD j 0 = m.getD j 0) → Ev (fun k => horariumref03_Ints.l0 k l m (i : Int)) (decide (l = m)) := by
  intro d
  induction d with
  | zero =>
    intro i hi hj
    rw [decide_eq_true (eq_of_getD 0 l m hlm (fun j h => hj j (by omega)))]
    refine Ev.step (f := fun _ => some true) (fun k => ?_) (Ev.now true)
    simp only [horariumref03_Ints.l0]
    rw [if_neg (by omega)]
  | succ d ih =>
    intro i hi hj
    by_cases he : l.getD i 0 = m.getD i 0
    · refine Ev.step (fun k => ?_) (ih (i + 1) (by omega) (fun j h => ?_))
      · simp only [horariumref03_Ints.l0]
        rw [if_pos (by omega), if_pos (by omega), if_pos (by omega), rd_nat, rd_nat, if_pos he, wr1 (by omega)]
      · by_cases e : j = i
        · rw [e]; exact he
        · exact hj j (by omega)
    · rw [decide_eq_false (fun e => he (by rw [e]))]
      refine Ev.step (f := fun _ => some false) (fun k => ?_) (Ev.now false)
      simp only [horariumref03_Ints.l0]
      rw [if_pos (by omega), if_pos (by omega), if_pos (by omega), rd_nat, rd_nat, if_neg he]
theorem ints_f (l m : List Int) (hl : l.length ≤ 9223372036854775807) : Ev (fun k => horariumref03_Ints.f k l m) (decide (l = m)) := by
  by_cases h : l.length = m.length
  · refine Ev.congr (fun k => ?_) (ints_ev l m h hl l.length 0 rfl (fun j hj => by omega))
    unfold horariumref03_Ints.f
    rw [if_pos (by omega)]
    rfl
  · rw [decide_eq_false (fun e => h (by rw [e]))]
    refine Ev.congr (f := fun _ => some false) (fun k => ?_) (Ev.now false)
    unfold horariumref03_Ints.f
    rw [if_neg (by omega)]
/-- Two rows of rows. -/
theorem rows_ev (l m : List (List Int)) (hlm : l.length = m.length) (hl : l.length ≤ 9223372036854775807) (hin : ∀ j, (l.getD j []).length ≤ 9223372036854775807) : ∀ d i : Nat, d + i = l.length → (∀ j, j < i → l.getD j [] = m.getD j []) → Ev (fun k => horariumref14_Rows.l0 k l m (i : Int)) (decide (l = m)) := by
  intro d
  induction d with
  | zero =>
    intro i hi hj
    rw [decide_eq_true (eq_of_getD [] l m hlm (fun j h => hj j (by omega)))]
    refine Ev.step (f := fun _ => some true) (fun k => ?_) (Ev.now true)
    simp only [horariumref14_Rows.l0]
    rw [if_neg (by omega)]
  | succ d ih =>
    intro i hi hj
    have hrun : ∀ k, horariumref14_Rows.l0 (k + 1) l m (i : Int) = (horariumref03_Ints.f k (l.getD i []) (m.getD i [])).bind fun t => if t = true then horariumref14_Rows.l0 k l m ((i + 1 : Nat) : Int) else some false := by
      intro k
      simp only [horariumref14_Rows.l0]
      rw [if_pos (by omega), if_pos (by omega), if_pos (by omega), wr1 (by omega)]
      unfold rd_L2
      rw [Int.toNat_natCast]
    refine Ev.step hrun ?_
    by_cases he : l.getD i [] = m.getD i []
    · refine Ev.bind (ints_f _ _ (hin i)) ?_
      rw [decide_eq_true he]
      refine ih (i + 1) (by omega) (fun j h => ?_)
      by_cases e : j = i
      · rw [e]; exact he
      · exact hj j (by omega)
    · rw [decide_eq_false (fun e => he (by rw [e]))]
      refine Ev.bind (ints_f _ _ (hin i)) ?_
      rw [decide_eq_false he]
      exact Ev.now false
theorem rows_f (l m : List (List Int)) (hl : l.length ≤ 9223372036854775807) (hin : ∀ j, (l.getD j []).length ≤ 9223372036854775807) : Ev (fun k => horariumref14_Rows.f k l m) (decide (l = m)) := by
  by_cases h : l.length = m.length
  · refine Ev.congr (fun k => ?_) (rows_ev l m h hl hin l.length 0 rfl (fun j hj => by omega))
    unfold horariumref14_Rows.f
    rw [if_pos (by omega)]
    rfl
  · rw [decide_eq_false (fun e => h (by rw [e]))]
    refine Ev.congr (f := fun _ => some false) (fun k => ?_) (Ev.now false)
    unfold horariumref14_Rows.f
    rw [if_neg (by omega)]
/-- Is a number among a row's? -/
theorem among_ev (l : List Int) (x : Int) (hl : l.length ≤ 9223372036854775807) : ∀ d i : Nat, d + i = l.length → (∀ j, j < i → l.getD j 0 ≠ x) → Ev (fun k => horariumref14_Has.l0 k l x (i : Int)) (l.contains x) := by
  intro d
  induction d with
  | zero =>
    intro i hi hj
    have : l.contains x = false := by
      rw [List.contains_eq_mem]
      refine decide_eq_false (fun hm => ?_)
      obtain ⟨j, h1, h2⟩ := List.getElem_of_mem hm
      refine hj j (by omega) ?_
      rw [List.getD_eq_getElem?_getD, List.getElem?_eq_getElem h1]
      exact h2
    rw [this]
    refine Ev.step (f := fun _ => some false) (fun k => ?_) (Ev.now false)
    simp only [horariumref14_Has.l0]
    rw [if_neg (by omega)]
  | succ d ih =>
    intro i hi hj
    by_cases he : l.getD i 0 = x
    · have : l.contains x = true := by
        rw [List.contains_eq_mem]
        refine decide_eq_true ?_
        rw [← he, List.getD_eq_getElem?_getD, List.getElem?_eq_getElem (by omega : i < l.length)]
        exact List.getElem_mem _
      rw [this]
      refine Ev.step (f := fun _ => some true) (fun k => ?_) (Ev.now true)
      simp only [horariumref14_Has.l0]
      rw [if_pos (by omega), if_pos (by omega), rd_nat, if_pos he]
    · refine Ev.step (fun k => ?_) (ih (i + 1) (by omega) (fun j h => ?_))
      · simp only [horariumref14_Has.l0]
        rw [if_pos (by omega), if_pos (by omega), rd_nat, if_neg he, wr1 (by omega)]
      · by_cases e : j = i
        · rw [e]; exact he
        · exact hj j (by omega)
theorem among_f (l : List Int) (x : Int) (hl : l.length ≤ 9223372036854775807) : Ev (fun k => horariumref14_Has.f k l x) (l.contains x) := among_ev l x hl l.length 0 rfl (fun j hj => by omega)
theorem contains_nats (l : List Nat) (b : Nat) : (nats l).contains (b : Int) = l.contains b := by
  rw [List.contains_eq_mem, List.contains_eq_mem]
  refine decide_eq_decide.2 ?_
  unfold nats
  rw [List.mem_map]
  constructor
  · rintro ⟨x, hx, he⟩
    have : x = b := by have h2 : (x : Int) = (b : Int) := he; omega
    exact this ▸ hx
  · exact fun h => ⟨b, h, rfl⟩
/-- The document's graph has these joins. -/
structure RefOf (n : Nat) (adj : Adj) (on : List Bool) : Prop where
  le : n ≤ 400
  sane : Sane n adj
  len : on.length = n * n
  on : ∀ a b, a < n → b < n → on.getD (a * n + b) false = adj a b
variable {n : Nat} {adj : Adj} {on : List Bool}
theorem node_f (on : List Bool) (n : Nat) (a : Int) : horariumref23_Node.f n on a = some (isN n a) := by
  unfold horariumref23_Node.f isN
  by_cases h : a ≥ 0
  · rw [if_pos h, decide_eq_true h, Bool.true_and]
  · rw [if_neg h, decide_eq_false h, Bool.false_and]
theorem idx {n a b : Nat} (hn : n ≤ 400) (ha : a < n) (hb : b < n) : wrap64 (wrap64 ((a : Int) * (n : Int)) + (b : Int)) = ((a * n + b : Nat) : Int) ∧ a * n + b < n * n := by
  have h1 : a * n ≤ 399 * 400 := Nat.mul_le_mul (by omega) hn
  have h2 : (a : Int) * (n : Int) = ((a * n : Nat) : Int) := by rw [Int.natCast_mul]
  have h3 : a * n + n ≤ n * n := by rw [← Nat.succ_mul]; exact Nat.mul_le_mul_right _ ha
  have e1 : wrap64 ((a * n : Nat) : Int) = ((a * n : Nat) : Int) := wr (by omega) (by omega)
  rw [h2, e1, wr (by omega) (by omega)]
  omega
theorem has_f (h : RefOf n adj on) (a b : Int) : horariumref23_Has.f n on a b = some (hasN n adj a b) := by
  unfold horariumref23_Has.f hasN
  rw [node_f, Option.bind_some]
  cases ha : isN n a with
  | false => rfl
  | true =>
    rw [if_pos rfl, node_f, Option.bind_some]
    simp only [isN, Bool.and_eq_true, decide_eq_true_eq] at ha
    obtain ⟨x, rfl⟩ := Int.eq_ofNat_of_zero_le ha.1
    cases hb : isN n b with
    | false =>
      simp only [isN, Bool.and_eq_false_iff, decide_eq_false_iff_not] at hb
      rw [if_neg (by decide)]
      by_cases h0 : 0 ≤ b
      · obtain ⟨y, rfl⟩ := Int.eq_ofNat_of_zero_le h0
        have : adj x y = false := by
          cases hxy : adj x y with
          | false => rfl
          | true => have := h.sane.lt2 hxy; omega
        simp [this]
      · simp [h0]
    | true =>
      rw [if_pos rfl]
      simp only [isN, Bool.and_eq_true, decide_eq_true_eq] at hb
      obtain ⟨y, rfl⟩ := Int.eq_ofNat_of_zero_le hb.1
      obtain ⟨e1, e2⟩ := idx (a := x) (b := y) h.le (by omega) (by omega)
      rw [e1, if_pos (by omega), if_pos (by rw [h.len]; omega)]
      unfold rdOf
      rw [Int.toNat_natCast, h.on x y (by omega) (by omega)]
      simp
theorem filt_succ (P : Nat → Bool) (i : Nat) : nats ((List.range (i + 1)).filter P) = nats ((List.range i).filter P) ++ (if P i then [(i : Int)] else []) := by
  rw [List.range_succ, List.filter_append]
  unfold nats
  rw [List.map_append]
  cases h : P i <;> simp [h]
theorem filt_len (P : Nat → Bool) (i : Nat) : (nats ((List.range i).filter P)).length ≤ i := by
  rw [nats_length]
  exact Nat.le_trans (List.length_filter_le _ _) (by rw [List.length_range]; exact Nat.le_refl _)
theorem hasN_nat {a b : Nat} (ha : a < n) : hasN n adj (a : Int) (b : Int) = adj a b := by
  unfold hasN isN
  simp [ha]
theorem near_ev (h : RefOf n adj on) (a : Int) : ∀ d i : Nat, d + i = n → Ev (fun k => horariumref23_Near.l0 k a (nats ((List.range i).filter (fun b => hasN n adj a (b : Int)))) i n on) (nats ((List.range n).filter (fun b => hasN n adj a (b : Int)))) := by
  have hn := h.le
  intro d
  induction d with
  | zero =>
    intro i hi
    obtain rfl : i = n := by omega
    refine Ev.step (f := fun _ => some _) (fun k => ?_) (Ev.now _)
    simp only [horariumref23_Near.l0]
    rw [if_neg (by omega)]
  | succ d ih =>
    intro i hi
    refine Ev.step (fun k => ?_) (ih (i + 1) (by omega))
    have hf := filt_len (fun b => hasN n adj a (b : Int)) i
    simp only [horariumref23_Near.l0]
    rw [if_pos (by omega), has_f h, Option.bind_some, wr1 (by omega), filt_succ]
    cases hh : hasN n adj a (i : Int) with
    | true => rw [if_pos rfl, if_pos (by omega)]; simp
    | false => rw [if_neg (by decide)]; simp
theorem near_f (h : RefOf n adj on) (a : Int) : Ev (fun k => horariumref23_Near.f k n on a) (nearI n adj a) := by
  have := near_ev h a n 0 rfl
  have e : nats ((List.range n).filter (fun b => hasN n adj a (b : Int))) = nearI n adj a := by
    unfold nearI
    by_cases ha : isN n a = true
    · rw [if_pos ha]
      unfold near
      congr 1
      refine List.filter_congr (fun b _ => ?_)
      unfold hasN
      rw [ha]
      simp
    · rw [if_neg ha]
      have : (List.range n).filter (fun b : Nat => hasN n adj a (b : Int)) = [] := by
        rw [List.filter_eq_nil_iff]
        intro b _
        unfold hasN
        simp [ha]
      rw [this]
      rfl
  rw [e] at this
  exact this
/-! ### the search from a node -/
structure SrchIn (n : Nat) (adj : Adj) (a : Nat) (l : List Nat) (i b : Nat) : Prop where
  s : Srch n adj a l i
  lt : i < l.length
  upto : ∀ y, y < b → adj (l.getD i 0) y = true → y ∈ l
theorem getD_app (l : List Nat) (x i : Nat) (h : i < l.length) : (l ++ [x]).getD i 0 = l.getD i 0 := by
  rw [List.getD_eq_getElem?_getD, List.getElem?_append_left h, ← List.getD_eq_getElem?_getD]
theorem out_ev (l : List Nat) (n : Nat) (hn : n ≤ 400) (hl : l.length ≤ 400) (on : List Bool) : ∀ d i : Nat, d + i = n → Ev (fun k => horariumref23_from.l2 k (nats l) (nats ((List.range i).filter l.contains)) i n on) (nats ((List.range n).filter l.contains)) := by
  intro d
  induction d with
  | zero =>
    intro i hi
    obtain rfl : i = n := by omega
    refine Ev.step (f := fun _ => some _) (fun k => ?_) (Ev.now _)
    simp only [horariumref23_from.l2]
    rw [if_neg (by omega)]
  | succ d ih =>
    intro i hi
    have hf := filt_len l.contains i
    have hrun : ∀ k, horariumref23_from.l2 (k + 1) (nats l) (nats ((List.range i).filter l.contains)) i n on = (horariumref14_Has.f k (nats l) i).bind fun t => if t = true then horariumref23_from.l2 k (nats l) (nats ((List.range i).filter l.contains) ++ [(i : Int)]) ((i + 1 : Nat) : Int) n on else horariumref23_from.l2 k (nats l) (nats ((List.range i).filter l.contains)) ((i + 1 : Nat) : Int) n on := by
      intro k
      simp only [horariumref23_from.l2]
      rw [if_pos (by omega), wr1 (by omega), if_pos (by omega)]
    refine Ev.step hrun (Ev.bind (among_f (nats l) i (by rw [nats_length]; omega)) ?_)
    have := ih (i + 1) (by omega)
    rw [filt_succ] at this
    rw [contains_nats]
    cases hc : l.contains i with
    | true => rw [hc] at this; simpa using this
    | false => rw [hc] at this; simpa using this
theorem from_ev (h : RefOf n adj on) {a : Nat} (ha : a < n) : ∀ d i : Nat, ∀ l : List Nat, n ≤ d + i → Srch n adj a l i → Ev (fun k => horariumref23_from.l0 k (nats l) i n on) (nats (comp n adj a)) := by
  have hn := h.le
  have hS := h.sane
  have done : ∀ l : List Nat, Srch n adj a l l.length → Ev (fun k => horariumref23_from.l0 k (nats l) (l.length : Nat) n on) (nats (comp n adj a)) := by
    intro l hs
    have hll := nodup_le hs.nodup hs.lt
    have h2 := out_ev l n hn (by omega) on n 0 rfl
    rw [comp_eq (n := n) (adj := adj) (a := a) (I := l.contains) (fun b => by rw [List.contains_iff_mem]; exact hs.all b)] at h2
    refine Ev.step (fun k => ?_) h2
    simp only [horariumref23_from.l0, nats_length]
    rw [if_neg (by omega)]
    rfl
  intro d
  induction d with
  | zero =>
    intro i l hi hs
    have hll := nodup_le hs.nodup hs.lt
    have := hs.le
    obtain rfl : i = l.length := by omega
    exact done l hs
  | succ d ih =>
    intro i l hi hs
    by_cases hil : i = l.length
    · subst hil
      exact done l hs
    have hle := hs.le
    have inner : ∀ e b : Nat, ∀ l : List Nat, e + b = n → SrchIn n adj a l i b → Ev (fun k => horariumref23_from.l1 k (nats l) i b n on) (nats (comp n adj a)) := by
      intro e
      induction e with
      | zero =>
        intro b l hb hs
        have hll := nodup_le hs.s.nodup hs.s.lt
        refine Ev.step (fun k => ?_) (ih (i + 1) l (by omega) ⟨hs.s.here, hs.s.nodup, hs.s.reach, hs.s.lt, hs.lt, fun j hj y hy => ?_⟩)
        · simp only [horariumref23_from.l1]
          rw [if_neg (by omega), wr1 (by have := hs.lt; omega)]
        · by_cases e : j = i
          · subst e; exact hs.upto y (by have := hS.lt2 hy; omega) hy
          · exact hs.s.shut j (by omega) y hy
      | succ e ihe =>
        intro b l hb hs
        have hll := nodup_le hs.s.nodup hs.s.lt
        have hlt := hs.lt
        have hx : l.getD i 0 ∈ l := getD_mem l i hlt
        have hxn := hs.s.lt _ hx
        have hrun : ∀ k, horariumref23_from.l1 (k + 1) (nats l) i b n on = if adj (l.getD i 0) b = true then ((horariumref14_Has.f k (nats l) b).bind fun t => if t = true then horariumref23_from.l1 k (nats l) i ((b + 1 : Nat) : Int) n on else horariumref23_from.l1 k (nats l ++ [(b : Int)]) i ((b + 1 : Nat) : Int) n on) else horariumref23_from.l1 k (nats l) i ((b + 1 : Nat) : Int) n on := by
          intro k
          simp only [horariumref23_from.l1, nats_length]
          rw [if_pos (by omega), if_pos (by omega), if_pos (by omega), rd_nat, getD_nats l i hlt, has_f h, Option.bind_some, hasN_nat hxn, wr1 (by omega)]
          simp only [if_pos (show l.length < 17592186044416 by omega)]
        cases hadj : adj (l.getD i 0) b with
        | false =>
          refine Ev.step (fun k => by rw [hrun, hadj]; exact if_neg (by decide)) (ihe (b + 1) l (by omega) ⟨hs.s, hlt, fun y hy hay => ?_⟩)
          by_cases e : y = b
          · subst e; rw [hadj] at hay; cases hay
          · exact hs.upto y (by omega) hay
        | true =>
          refine Ev.step (fun k => by rw [hrun, hadj]; exact if_pos rfl) (Ev.bind (among_f (nats l) b (by rw [nats_length]; omega)) ?_)
          rw [contains_nats]
          cases hc : l.contains b with
          | true =>
            have hm : b ∈ l := by simpa using hc
            refine Ev.congr (fun k => if_pos rfl) (ihe (b + 1) l (by omega) ⟨hs.s, hlt, fun y hy hay => ?_⟩)
            by_cases e : y = b
            · subst e; exact hm
            · exact hs.upto y (by omega) hay
          | false =>
            have hm : b ∉ l := by simpa using hc
            have hbn := hS.lt2 hadj
            have hl2 : nats l ++ [(b : Int)] = nats (l ++ [b]) := by simp [nats]
            have hst : SrchIn n adj a (l ++ [b]) i (b + 1) := by
              refine ⟨⟨List.mem_append_left _ hs.s.here, ?_, ?_, ?_, ?_, ?_⟩, ?_, ?_⟩
              · rw [List.nodup_append]
                refine ⟨hs.s.nodup, by simp, fun x hx y hy => ?_⟩
                rw [List.mem_singleton] at hy
                rintro rfl
                exact hm (hy ▸ hx)
              · intro x hx'
                rcases List.mem_append.1 hx' with h1 | h1
                · exact hs.s.reach x h1
                · rw [List.mem_singleton.1 h1]; exact (hs.s.reach _ hx).step hadj
              · intro x hx'
                rcases List.mem_append.1 hx' with h1 | h1
                · exact hs.s.lt x h1
                · rw [List.mem_singleton.1 h1]; exact hbn
              · rw [List.length_append]; have := hs.s.le; omega
              · intro j hj y hy
                rw [getD_app l b j (by omega)] at hy
                exact List.mem_append_left _ (hs.s.shut j hj y hy)
              · rw [List.length_append]; omega
              · intro y hy hay
                rw [getD_app l b i hlt] at hay
                by_cases e : y = b
                · rw [e]; exact List.mem_append_right _ (List.mem_singleton.2 rfl)
                · exact List.mem_append_left _ (hs.upto y (by omega) hay)
            refine Ev.congr (fun k => ?_) (ihe (b + 1) (l ++ [b]) (by omega) hst)
            rw [if_neg (by decide), hl2]
    have hll := nodup_le hs.nodup hs.lt
    refine Ev.step (fun k => ?_) (inner n 0 l rfl ⟨hs, by omega, fun y hy _ => by omega⟩)
    simp only [horariumref23_from.l0, nats_length]
    rw [if_pos (by omega)]
    rfl
theorem from_f (h : RefOf n adj on) {a : Nat} (ha : a < n) : Ev (fun k => horariumref23_from.f k n on a) (nats (comp n adj a)) := by
  refine from_ev h ha n 0 [a] (by omega) ⟨by simp, by simp, fun x hx => ?_, fun x hx => ?_, by simp, fun j hj => by omega⟩
  · rw [List.mem_singleton.1 hx]; exact .refl
  · rw [List.mem_singleton.1 hx]; exact ha
end Go.Proofs.Ytfkmngmnnlgjdaa.Pr
