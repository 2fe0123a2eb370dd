/- Plain facts for the walk of Parts: what the map of the nodes that are left holds. -/
import Derived.Test.YtfkmngmnnlgjdaaPuShell
namespace Go.Proofs.Ytfkmngmnnlgjdaa.Pu
open Go.Proofs.Ytfkmngmnnlgjdaa.Mw

/-- The first k nodes are left. -/
def LI (k : Nat) (f : Int → Option Bool) : Prop := ∀ a : Nat, f (a : Int) = if a < k then some true else none
/-- What is left: the nodes that J does not hold. -/
def Lf (n : Nat) (J : Nat → Bool) (f : Int → Option Bool) : Prop := ∀ a : Nat, f (a : Int) = if a < n ∧ J a = false then some true else none
theorem LI.start : LI 0 (fun _ => none) := fun a => by simp
theorem updB_same {f : Int → Option Bool} {a : Int} {x : Option Bool} : upd f a x a = x := by simp [upd]
theorem updB_other {f : Int → Option Bool} {a b : Nat} {x : Option Bool} (h : b ≠ a) : upd f (a : Int) x (b : Int) = f (b : Int) := by
  unfold upd
  rw [if_neg (by omega)]
theorem LI.fresh {k : Nat} {f : Int → Option Bool} (h : LI k f) : f (k : Int) = none := by rw [h k, if_neg (by omega)]
theorem LI.step {k : Nat} {f : Int → Option Bool} (h : LI k f) : LI (k + 1) (upd f (k : Int) (some true)) := by
  intro a
  by_cases e : a = k
  · subst e
    rw [updB_same, if_pos (by omega)]
  · rw [updB_other e, h a]
    by_cases h1 : a < k
    · rw [if_pos h1, if_pos (by omega)]
    · rw [if_neg h1, if_neg (by omega)]
theorem LI.all {n : Nat} {f : Int → Option Bool} (h : LI n f) : Lf n (fun _ => false) f := by
  intro a
  rw [h a]
  by_cases h1 : a < n
  · rw [if_pos h1, if_pos ⟨h1, rfl⟩]
  · rw [if_neg h1, if_neg (fun h2 => h1 h2.1)]
theorem Lf.del {n : Nat} {J : Nat → Bool} {f : Int → Option Bool} (h : Lf n J f) (q : Nat) : Lf n (also J q) (upd f (q : Int) none) := by
  intro a
  by_cases e : a = q
  · subst e
    rw [updB_same, if_neg]
    rw [also_self]
    intro h1
    cases h1.2
  · rw [updB_other e, h a]
    have hc : also J q a = J a := by simp [also, e]
    rw [hc]
theorem Lf.yes {n : Nat} {J : Nat → Bool} {f : Int → Option Bool} (h : Lf n J f) {a : Nat} (ha : a < n) (hJ : J a = false) : f (a : Int) = some true := by rw [h a, if_pos ⟨ha, hJ⟩]
theorem Lf.no {n : Nat} {J : Nat → Bool} {f : Int → Option Bool} (h : Lf n J f) {a : Nat} (hJ : J a = true) : f (a : Int) = none := by
  rw [h a, if_neg]
  rintro ⟨_, h2⟩
  rw [hJ] at h2
  cases h2
/-- Two sets in one. -/
def both (o I : Nat → Bool) : Nat → Bool := fun x => o x || I x
theorem both_also (o I : Nat → Bool) (b : Nat) : also (both o I) b = both o (also I b) := by
  funext x
  simp only [also, both, Bool.or_assoc]
theorem both_one (o : Nat → Bool) (b : Nat) : also o b = both o (fun x => x == b) := rfl
/-- What is gone once all nodes below k have been looked at. -/
def Gone (adj : Adj) (k : Nat) (o : Nat → Bool) : Prop := ∀ x, o x = true ↔ ∃ c, c < k ∧ Reach adj c x
theorem Gone.start (adj : Adj) : Gone adj 0 (fun _ => false) := fun x => ⟨fun h => (by cases h), fun ⟨c, hc, _⟩ => (by omega)⟩
theorem Gone.least {adj : Adj} {k : Nat} {o : Nat → Bool} (h : Gone adj k o) (ho : o k = false) : Least adj k := by
  intro b hb hr
  have := (h k).2 ⟨b, hb, hr⟩
  rw [ho] at this
  cases this
theorem Gone.more {adj : Adj} {k : Nat} {o : Nat → Bool} (h : Gone adj k o) (ho : o k = true) : ¬ Least adj k ∧ Gone adj (k + 1) o := by
  obtain ⟨c, hc, hr⟩ := (h k).1 ho
  refine ⟨fun hL => hL c hc hr, fun x => ⟨fun hx => ?_, fun ⟨d, hd, hx⟩ => ?_⟩⟩
  · obtain ⟨d, hd, hx⟩ := (h x).1 hx
    exact ⟨d, by omega, hx⟩
  · by_cases e : d = k
    · subst e
      exact (h x).2 ⟨c, hc, hr.trans hx⟩
    · exact (h x).2 ⟨d, by omega, hx⟩
theorem Gone.over {adj : Adj} {k : Nat} {o I : Nat → Bool} (h : Gone adj k o) (hI : ∀ b, I b = true ↔ Reach adj k b) : Gone adj (k + 1) (both o I) := by
  intro x
  unfold both
  rw [Bool.or_eq_true]
  constructor
  · rintro (hx | hx)
    · obtain ⟨d, hd, hr⟩ := (h x).1 hx
      exact ⟨d, by omega, hr⟩
    · exact ⟨k, by omega, (hI x).1 hx⟩
  · rintro ⟨d, hd, hr⟩
    by_cases e : d = k
    · subst e
      exact Or.inr ((hI x).2 hr)
    · exact Or.inl ((h x).2 ⟨d, by omega, hr⟩)
/-- A node of this part is in no part found before. -/
theorem Gone.apart {n : Nat} {adj : Adj} (hS : Sane n adj) {k : Nat} {o : Nat → Bool} (h : Gone adj k o) (ho : o k = false) {b : Nat} (hr : Reach adj k b) : o b = false := by
  cases hb : o b with
  | false => rfl
  | true =>
    obtain ⟨c, hc, hcb⟩ := (h b).1 hb
    exact absurd (hcb.trans (hr.symm hS)) (h.least ho c hc)
theorem both_new {n : Nat} {adj : Adj} (hS : Sane n adj) {k : Nat} {o I : Nat → Bool} (h : Gone adj k o) (ho : o k = false) {b : Nat} (hr : Reach adj k b) (hI : I b = false) : both o I b = false := by
  unfold both
  rw [h.apart hS ho hr, hI]
  rfl
theorem both_old {o I : Nat → Bool} {b : Nat} (hI : I b = true) : both o I b = true := by
  unfold both
  rw [hI, Bool.or_true]
end Go.Proofs.Ytfkmngmnnlgjdaa.Pu
