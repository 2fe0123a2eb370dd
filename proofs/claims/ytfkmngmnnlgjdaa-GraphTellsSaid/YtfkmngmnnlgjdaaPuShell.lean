/- Plain facts for the walk of Shell: what the map of the nodes that are left holds. -/
import Derived.Test.YtfkmngmnnlgjdaaPuGraph
import Derived.Test.YtfkmngmnnlgjdaaMapW
namespace Go.Proofs.Ytfkmngmnnlgjdaa.Pu
open Go.Proofs.Ytfkmngmnnlgjdaa.Mw

theorem upd_same {f : Int → Option Int} {a : Int} {x : Option Int} : upd f a x a = x := by simp [upd]
theorem upd_other {f : Int → Option Int} {a b : Nat} {x : Option Int} (h : b ≠ a) : upd f (a : Int) x (b : Int) = f (b : Int) := by
  unfold upd
  rw [if_neg (by omega)]
/-- The first k nodes with their numbers of neighbours. -/
def ShI (n : Nat) (adj : Adj) (k : Nat) (f : Int → Option Int) : Prop := ∀ a : Nat, f (a : Int) = if a < k then some ((deg n adj [] a : Nat) : Int) else none
/-- The nodes that are not out. -/
def Sh (n : Nat) (adj : Adj) (out : List Nat) (f : Int → Option Int) : Prop := ∀ a : Nat, f (a : Int) = if a < n ∧ out.contains a = false then some ((deg n adj out a : Nat) : Int) else none
/-- q has gone out; some of its neighbours have been told. -/
def ShD (n : Nat) (adj : Adj) (out : List Nat) (q : Nat) (done : List Nat) (f : Int → Option Int) : Prop :=
  ∀ a : Nat, f (a : Int) = if a < n ∧ (out ++ [q]).contains a = false then some ((deg n adj (if done.contains a then out ++ [q] else out) a : Nat) : Int) else none
theorem ShI.start (n : Nat) (adj : Adj) : ShI n adj 0 (fun _ => none) := fun a => by simp
theorem ShI.step {n : Nat} {adj : Adj} {k : Nat} {f : Int → Option Int} (h : ShI n adj k f) : ShI n adj (k + 1) (upd f (k : Int) (some (((near n adj k).length : Nat) : Int))) := by
  intro a
  by_cases e : a = k
  · subst e
    rw [upd_same, if_pos (by omega), deg_nil]
  · rw [upd_other e, h a]
    by_cases h1 : a < k
    · rw [if_pos h1, if_pos (by omega)]
    · rw [if_neg h1, if_neg (by omega)]
theorem ShI.fresh {n : Nat} {adj : Adj} {k : Nat} {f : Int → Option Int} (h : ShI n adj k f) : f (k : Int) = none := by rw [h k, if_neg (by omega)]
theorem ShI.all {n : Nat} {adj : Adj} {f : Int → Option Int} (h : ShI n adj n f) : Sh n adj [] f := by
  intro a
  rw [h a]
  by_cases h1 : a < n
  · rw [if_pos h1, if_pos ⟨h1, rfl⟩]
  · rw [if_neg h1, if_neg (fun h2 => h1 h2.1)]
theorem Sh.del {n : Nat} {adj : Adj} {out : List Nat} {f : Int → Option Int} (h : Sh n adj out f) (q : Nat) : ShD n adj out q [] (upd f (q : Int) none) := by
  intro a
  by_cases e : a = q
  · subst e
    rw [upd_same, if_neg]
    intro h1
    have := h1.2
    simp at this
  · rw [upd_other e, h a]
    have hc : (out ++ [q]).contains a = out.contains a := by
      rw [List.contains_eq_mem, List.contains_eq_mem]
      apply decide_eq_decide.2
      simp [e]
    rw [hc]
    rfl
theorem ShD.skip {n : Nat} {adj : Adj} {out : List Nat} {q : Nat} {done : List Nat} {f : Int → Option Int} (h : ShD n adj out q done f) {b : Nat} (hb : f (b : Int) = none) : ShD n adj out q (done ++ [b]) f := by
  intro a
  by_cases e : a = b
  · subst e
    rw [hb]
    rw [h a] at hb
    by_cases h1 : a < n ∧ (out ++ [q]).contains a = false
    · rw [if_pos h1] at hb; cases hb
    · rw [if_neg h1]
  · rw [h a]
    have hc : (done ++ [b]).contains a = done.contains a := by
      rw [List.contains_eq_mem, List.contains_eq_mem]
      apply decide_eq_decide.2
      simp [e]
    rw [hc]
theorem ShD.told {n : Nat} {adj : Adj} (hS : Sane n adj) {out : List Nat} {q : Nat} {done : List Nat} {f : Int → Option Int} (h : ShD n adj out q done f) (hq : out.contains q = false) {b : Nat} (hqb : adj q b = true) (hnd : done.contains b = false) {d : Int} (hb : f (b : Int) = some d) :
    0 < d ∧ d ≤ n ∧ ShD n adj out q (done ++ [b]) (upd f (b : Int) (some (d - 1))) := by
  have hbb := h b
  rw [hb] at hbb
  by_cases h1 : b < n ∧ (out ++ [q]).contains b = false
  · rw [if_pos h1, hnd] at hbb
    injection hbb with hbb
    have hd := deg_snoc hS hq (a := b)
    rw [if_pos (by rw [hS.sym]; exact hqb)] at hd
    have hle := deg_le n adj out b
    simp only [Bool.false_eq_true, if_false] at hbb
    refine ⟨by omega, by omega, fun a => ?_⟩
    by_cases e : a = b
    · subst e
      rw [upd_same, if_pos h1]
      have hc : (done ++ [a]).contains a = true := by simp
      rw [hc]
      simp only [if_true]
      congr 1
      omega
    · rw [upd_other e, h a]
      have hc : (done ++ [b]).contains a = done.contains a := by
        rw [List.contains_eq_mem, List.contains_eq_mem]
        apply decide_eq_decide.2
        simp [e]
      rw [hc]
  · rw [if_neg h1] at hbb
    cases hbb
theorem ShD.over {n : Nat} {adj : Adj} (hS : Sane n adj) {out : List Nat} {q : Nat} {f : Int → Option Int} (h : ShD n adj out q (near n adj q) f) (hq : out.contains q = false) : Sh n adj (out ++ [q]) f := by
  intro a
  rw [h a]
  by_cases hm : (near n adj q).contains a = true
  · rw [hm]; rfl
  · have hm' : (near n adj q).contains a = false := by simpa using hm
    rw [hm']
    have hn : adj a q = false := by
      cases he : adj a q with
      | false => rfl
      | true =>
        exfalso
        apply hm
        rw [List.contains_eq_mem]
        exact decide_eq_true ((mem_near hS).2 (by rw [hS.sym]; exact he))
    have hd := deg_snoc hS hq (a := a)
    rw [hn] at hd
    simp only [Bool.false_eq_true, if_false, Nat.add_zero] at hd ⊢
    rw [hd]
theorem Sh.yes {n : Nat} {adj : Adj} {out : List Nat} {f : Int → Option Int} (h : Sh n adj out f) {a : Nat} (ha : a < n) (ho : out.contains a = false) : f (a : Int) = some ((deg n adj out a : Nat) : Int) := by rw [h a, if_pos ⟨ha, ho⟩]
theorem Sh.no {n : Nat} {adj : Adj} {out : List Nat} {f : Int → Option Int} (h : Sh n adj out f) {a : Nat} (ho : out.contains a = true) : f (a : Int) = none := by
  rw [h a, if_neg]
  intro h1
  rw [ho] at h1
  cases h1.2
/-- The best so far as the code keeps it. -/
def bestI : Option Nat → Int
  | none => -1
  | some q => (q : Int)
theorem getD_nats (l : List Nat) (i : Nat) (hi : i < l.length) : (nats l).getD i 0 = ((l.getD i 0 : Nat) : Int) := by
  unfold nats
  rw [List.getD_eq_getElem?_getD, List.getD_eq_getElem?_getD, List.getElem?_map, List.getElem?_eq_getElem hi]
  rfl
theorem nats_length (l : List Nat) : (nats l).length = l.length := by simp [nats]
theorem take_succ_getD (l : List Nat) (i : Nat) (hi : i < l.length) : l.take (i + 1) = l.take i ++ [l.getD i 0] := by
  rw [List.take_succ_eq_append_getElem hi, List.getD_eq_getElem?_getD, List.getElem?_eq_getElem hi]; rfl
theorem not_in_take {l : List Nat} (h : l.Nodup) {i : Nat} (hi : i < l.length) : (l.take i).contains (l.getD i 0) = false := by
  have h1 : (l.take (i + 1)).Nodup := List.Nodup.sublist (List.take_sublist _ _) h
  rw [take_succ_getD l i hi, List.nodup_append] at h1
  cases hc : (l.take i).contains (l.getD i 0) with
  | false => rfl
  | true => exact absurd rfl (h1.2.2 _ (by simpa using hc) _ (List.mem_singleton.2 rfl))
theorem getD_mem (l : List Nat) (i : Nat) (hi : i < l.length) : l.getD i 0 ∈ l := by
  rw [List.getD_eq_getElem?_getD, List.getElem?_eq_getElem hi]; exact List.getElem_mem hi
end Go.Proofs.Ytfkmngmnnlgjdaa.Pu
