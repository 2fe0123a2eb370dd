/- What the law rests on, part 4: words over the model, contracts of functions, plain facts. -/
import Derived.Test.YtineikfhfmiidaaGreatQC3
namespace Go.Proofs.YtineikfhfmiidaaGreat.Gp
open Go.RowKit Go.Proofs.YtineikfhfmiidaaGreatW.PrintWords Go.Proofs.YtineikfhfmiidaaGreatW.PrintLast Go.Proofs.YtineikfhfmiidaaGreatW.PrintMore
set_option linter.unusedVariables false
set_option linter.unusedSimpArgs false
def horariumref13_Rising.l0 : Nat → List Int → Int → Int → Option (Bool)
  | 0, _, _, _ => none
  | k + 1, x0, x1, x5 => if x5 < (x0.length : Int) then (if 0 ≤ x5 then (if (rd x0 x5) < 0 then (some false) else (if (rd x0 x5) ≥ x1 then (some false) else (if x5 > 0 then (if 0 ≤ (wrap64 (x5 - 1)) then (if (wrap64 (x5 - 1)) < (x0.length : Int) then (if (rd x0 x5) ≤ (rd x0 (wrap64 (x5 - 1))) then (some false) else (horariumref13_Rising.l0 k x0 x1 (wrap64 (x5 + 1)))) else (none)) else (none)) else (horariumref13_Rising.l0 k x0 x1 (wrap64 (x5 + 1)))))) else (none)) else (some true)
def horariumref13_Rising.f (k : Nat) (l0 : List Int) (a1 : Int) : Option (Bool) := horariumref13_Rising.l0 k l0 a1 0
set_option maxHeartbeats 8000000 in
set_option maxRecDepth 100000 in
theorem horariumref13_Rising.calls (k : Nat) (A0 : Option Addr) (c0 : Nat) (l0 : List Int) (a1 : Int) (r : Bool) (w : World) (hr0 : Kd.C (Kd.int .i64) w A0 l0.length l0) (hc0 : l0.length ≤ c0) (h : horariumref13_Rising.f k l0 a1 = some r) :
    Calls Tryz.prog 29 #[.slice A0 l0.length c0, .int .i64 a1] w fun e w' => e = .returned (.bool r) ∧ Drawn0 w w' := by
  have HR0 := Aside0.mk hr0
  have HC0 := Aside0.mk hc0
  clear hr0 hc0
  have H : (horariumref13_Rising.l0 k l0 a1 0) = some r := h
  clear h
  have H' := Aside0.mk H
  clear H
  go_enter Tryz.func29, Tryz.ntmps29
  go_wp2
  repeat (go_quiet (fail); try go_wp2)
  go_loopg [5] k (fun kq v5 w' => ∃ (x5_1 : Int), v5 = .int .i64 x5_1 ∧ Aside0 (horariumref13_Rising.l0 kq l0 a1 x5_1 = some r) ∧ Aside0 (kq ≤ k) ∧ Drawn0 w w')
  case atStart => exact ⟨(0), (by first | rfl | (simp; done) | (simp [*]; done)), H', ⟨Nat.le_refl _⟩, by repeat (first | exact Drawn0.refl _ | apply Drawn0.step)⟩
  case round =>
    clear H'
    try clear c2
    try clear p2
    obtain ⟨x5_1, rfl, HA, HK1, ⟨m1, rfl⟩⟩ := hrel
    cases gk with
    | zero => exact absurd HA.out (by simp [horariumref13_Rising.l0])
    | succ k1 =>
      have H := HA.out
      clear HA
      simp only [horariumref13_Rising.l0] at H
      by_cases c3 : x5_1 < (l0.length : Int)
      · rw [if_pos c3] at H
        have c3b0 : decide (x5_1 < (l0.length : Int)) = true := decide_eq_true c3
        clear c3
        by_cases c4 : 0 ≤ x5_1
        · rw [if_pos c4] at H
          have c4b0 : decide (0 ≤ x5_1) = true := decide_eq_true c4
          clear c4
          by_cases c5 : (rd l0 x5_1) < 0
          · rw [if_pos c5] at H
            have c5b0 : decide ((rd l0 x5_1) < 0) = true := decide_eq_true c5
            clear c5
            obtain rfl := Option.some.inj H
            have p197 : 0 ≤ (x5_1 : Int) := of_decide_eq_true (by first | (with_reducible assumption) | assumption)
            have q197 : x5_1 < (l0.length : Int) := of_decide_eq_true (by first | (with_reducible assumption) | assumption)
            obtain ⟨ad197, e197, hx197_0⟩ := Kd.at_int HR0.out x5_1 p197 q197
            cases e197
            replace p197 := eq_true p197
            replace q197 := eq_true q197
            go_wp2
            repeat (go_quiet (fail); try go_wp2)
            go_ret
            exact ⟨by first | rfl | (simp; done) | (simp [*]; done), by repeat (first | exact Drawn0.refl _ | apply Drawn0.step)⟩
          · rw [if_neg c5] at H
            have c5b0 : decide ((rd l0 x5_1) < 0) = false := decide_eq_false c5
            clear c5
            by_cases c6 : (rd l0 x5_1) ≥ a1
            · rw [if_pos c6] at H
              have c6b0 : decide (a1 ≤ (rd l0 x5_1)) = true := decide_eq_true c6
              clear c6
              obtain rfl := Option.some.inj H
              have p197 : 0 ≤ (x5_1 : Int) := of_decide_eq_true (by first | (with_reducible assumption) | assumption)
              have q197 : x5_1 < (l0.length : Int) := of_decide_eq_true (by first | (with_reducible assumption) | assumption)
              obtain ⟨ad197, e197, hx197_0⟩ := Kd.at_int HR0.out x5_1 p197 q197
              cases e197
              replace p197 := eq_true p197
              replace q197 := eq_true q197
              have p198 : 0 ≤ (x5_1 : Int) := of_decide_eq_true (by first | (with_reducible assumption) | assumption)
              have q198 : x5_1 < (l0.length : Int) := of_decide_eq_true (by first | (with_reducible assumption) | assumption)
              obtain ⟨ad198, e198, hx198_0⟩ := Kd.at_int HR0.out x5_1 p198 q198
              obtain rfl : ad197 = ad198 := (by injection e198)
              replace p198 := eq_true p198
              replace q198 := eq_true q198
              go_wp2
              repeat (go_quiet (fail); try go_wp2)
              go_ret
              exact ⟨by first | rfl | (simp; done) | (simp [*]; done), by repeat (first | exact Drawn0.refl _ | apply Drawn0.step)⟩
            · rw [if_neg c6] at H
              have c6b0 : decide (a1 ≤ (rd l0 x5_1)) = false := decide_eq_false c6
              clear c6
              by_cases c7 : x5_1 > 0
              · rw [if_pos c7] at H
                have c7b0 : decide (0 < x5_1) = true := decide_eq_true c7
                clear c7
                obtain ⟨ji8, hji8⟩ : ∃ j_ : Int, (wrap64 (x5_1 - 1)) = j_ := ⟨_, rfl⟩
                replace H : (if 0 ≤ (ji8) then (if (ji8) < (l0.length : Int) then (if (rd l0 x5_1) ≤ (rd l0 (ji8)) then (some false) else (horariumref13_Rising.l0 k1 l0 a1 (wrap64 (x5_1 + 1)))) else (none)) else (none)) = some r := by first | (rw [hji8] at H; exact H) | (simp only [hji8] at H ⊢; exact H)
                have hji8w : (IntKind.i64.wrap (x5_1 - 1)) = ji8 := (i64_w _).trans hji8
                by_cases c9 : 0 ≤ (ji8)
                · rw [if_pos c9] at H
                  have c9b0 : decide (0 ≤ (ji8)) = true := decide_eq_true c9
                  clear c9
                  by_cases c10 : (ji8) < (l0.length : Int)
                  · rw [if_pos c10] at H
                    have c10b0 : decide ((ji8) < (l0.length : Int)) = true := decide_eq_true c10
                    clear c10
                    by_cases c11 : (rd l0 x5_1) ≤ (rd l0 (ji8))
                    · rw [if_pos c11] at H
                      have c11b0 : decide ((rd l0 x5_1) ≤ (rd l0 (ji8))) = true := decide_eq_true c11
                      clear c11
                      obtain rfl := Option.some.inj H
                      have p197 : 0 ≤ (x5_1 : Int) := of_decide_eq_true (by first | (with_reducible assumption) | assumption)
                      have q197 : x5_1 < (l0.length : Int) := of_decide_eq_true (by first | (with_reducible assumption) | assumption)
                      obtain ⟨ad197, e197, hx197_0⟩ := Kd.at_int HR0.out x5_1 p197 q197
                      cases e197
                      replace p197 := eq_true p197
                      replace q197 := eq_true q197
                      have p198 : 0 ≤ (x5_1 : Int) := of_decide_eq_true (by first | (with_reducible assumption) | assumption)
                      have q198 : x5_1 < (l0.length : Int) := of_decide_eq_true (by first | (with_reducible assumption) | assumption)
                      obtain ⟨ad198, e198, hx198_0⟩ := Kd.at_int HR0.out x5_1 p198 q198
                      obtain rfl : ad197 = ad198 := (by injection e198)
                      replace p198 := eq_true p198
                      replace q198 := eq_true q198
                      have p199 : 0 ≤ (x5_1 : Int) := of_decide_eq_true (by first | (with_reducible assumption) | assumption)
                      have q199 : x5_1 < (l0.length : Int) := of_decide_eq_true (by first | (with_reducible assumption) | assumption)
                      obtain ⟨ad199, e199, hx199_0⟩ := Kd.at_int HR0.out x5_1 p199 q199
                      obtain rfl : ad197 = ad199 := (by injection e199)
                      replace p199 := eq_true p199
                      replace q199 := eq_true q199
                      have p200 : 0 ≤ ((ji8) : Int) := of_decide_eq_true (by first | (with_reducible assumption) | assumption)
                      have q200 : (ji8) < (l0.length : Int) := of_decide_eq_true (by first | (with_reducible assumption) | assumption)
                      obtain ⟨ad200, e200, hx200_0⟩ := Kd.at_int HR0.out (ji8) p200 q200
                      obtain rfl : ad197 = ad200 := (by injection e200)
                      replace p200 := eq_true p200
                      replace q200 := eq_true q200
                      go_wp2
                      repeat (go_quiet (fail); try go_wp2)
                      go_ret
                      exact ⟨by first | rfl | (simp; done) | (simp only [← hji8] <;> (first | rfl | simp)) | (simp [*]; done), by repeat (first | exact Drawn0.refl _ | apply Drawn0.step)⟩
                    · rw [if_neg c11] at H
                      have c11b0 : decide ((rd l0 x5_1) ≤ (rd l0 (ji8))) = false := decide_eq_false c11
                      clear c11
                      have H' := Aside0.mk H
                      clear H
                      have p197 : 0 ≤ (x5_1 : Int) := of_decide_eq_true (by first | (with_reducible assumption) | assumption)
                      have q197 : x5_1 < (l0.length : Int) := of_decide_eq_true (by first | (with_reducible assumption) | assumption)
                      obtain ⟨ad197, e197, hx197_0⟩ := Kd.at_int HR0.out x5_1 p197 q197
                      cases e197
                      replace p197 := eq_true p197
                      replace q197 := eq_true q197
                      have p198 : 0 ≤ (x5_1 : Int) := of_decide_eq_true (by first | (with_reducible assumption) | assumption)
                      have q198 : x5_1 < (l0.length : Int) := of_decide_eq_true (by first | (with_reducible assumption) | assumption)
                      obtain ⟨ad198, e198, hx198_0⟩ := Kd.at_int HR0.out x5_1 p198 q198
                      obtain rfl : ad197 = ad198 := (by injection e198)
                      replace p198 := eq_true p198
                      replace q198 := eq_true q198
                      have p199 : 0 ≤ (x5_1 : Int) := of_decide_eq_true (by first | (with_reducible assumption) | assumption)
                      have q199 : x5_1 < (l0.length : Int) := of_decide_eq_true (by first | (with_reducible assumption) | assumption)
                      obtain ⟨ad199, e199, hx199_0⟩ := Kd.at_int HR0.out x5_1 p199 q199
                      obtain rfl : ad197 = ad199 := (by injection e199)
                      replace p199 := eq_true p199
                      replace q199 := eq_true q199
                      have p200 : 0 ≤ ((ji8) : Int) := of_decide_eq_true (by first | (with_reducible assumption) | assumption)
                      have q200 : (ji8) < (l0.length : Int) := of_decide_eq_true (by first | (with_reducible assumption) | assumption)
                      obtain ⟨ad200, e200, hx200_0⟩ := Kd.at_int HR0.out (ji8) p200 q200
                      obtain rfl : ad197 = ad200 := (by injection e200)
                      replace p200 := eq_true p200
                      replace q200 := eq_true q200
                      go_wp2
                      repeat (go_quiet (fail); try go_wp2)
                      go_roundg k1
                      case measure => have := HK1.out; omega
                      case rel => exact ⟨(wrap64 (x5_1 + 1)), (by first | rfl | (simp; done) | (simp [*]; done)), H', ⟨by have := HK1.out; omega⟩, by repeat (first | exact Drawn0.refl _ | apply Drawn0.step)⟩
                  · rw [if_neg c10] at H
                    exact absurd H (by simp)
                · rw [if_neg c9] at H
                  exact absurd H (by simp)
              · rw [if_neg c7] at H
                have c7b0 : decide (0 < x5_1) = false := decide_eq_false c7
                clear c7
                have H' := Aside0.mk H
                clear H
                have p197 : 0 ≤ (x5_1 : Int) := of_decide_eq_true (by first | (with_reducible assumption) | assumption)
                have q197 : x5_1 < (l0.length : Int) := of_decide_eq_true (by first | (with_reducible assumption) | assumption)
                obtain ⟨ad197, e197, hx197_0⟩ := Kd.at_int HR0.out x5_1 p197 q197
                cases e197
                replace p197 := eq_true p197
                replace q197 := eq_true q197
                have p198 : 0 ≤ (x5_1 : Int) := of_decide_eq_true (by first | (with_reducible assumption) | assumption)
                have q198 : x5_1 < (l0.length : Int) := of_decide_eq_true (by first | (with_reducible assumption) | assumption)
                obtain ⟨ad198, e198, hx198_0⟩ := Kd.at_int HR0.out x5_1 p198 q198
                obtain rfl : ad197 = ad198 := (by injection e198)
                replace p198 := eq_true p198
                replace q198 := eq_true q198
                go_wp2
                repeat (go_quiet (fail); try go_wp2)
                go_roundg k1
                case measure => have := HK1.out; omega
                case rel => exact ⟨(wrap64 (x5_1 + 1)), (by first | rfl | (simp; done) | (simp [*]; done)), H', ⟨by have := HK1.out; omega⟩, by repeat (first | exact Drawn0.refl _ | apply Drawn0.step)⟩
        · rw [if_neg c4] at H
          exact absurd H (by simp)
      · rw [if_neg c3] at H
        have c3b0 : decide (x5_1 < (l0.length : Int)) = false := decide_eq_false c3
        clear c3
        obtain rfl := Option.some.inj H
        go_wp2
        repeat (go_quiet (fail); try go_wp2)
        go_ret
        exact ⟨by first | rfl | (simp; done) | (simp [*]; done), by repeat (first | exact Drawn0.refl _ | apply Drawn0.step)⟩
end Go.Proofs.YtineikfhfmiidaaGreat.Gp
namespace Go.Proofs.YtineikfhfmiidaaGreat.Gp
open Go.RowKit Go.Proofs.YtineikfhfmiidaaGreatW.PrintWords Go.Proofs.YtineikfhfmiidaaGreatW.PrintLast Go.Proofs.YtineikfhfmiidaaGreatW.PrintMore
set_option linter.unusedVariables false
set_option linter.unusedSimpArgs false
end Go.Proofs.YtineikfhfmiidaaGreat.Gp
namespace Go.Proofs.YtineikfhfmiidaaGreat.Gp
open Go.RowKit Go.Proofs.YtineikfhfmiidaaGreatW.PrintWords Go.Proofs.YtineikfhfmiidaaGreatW.PrintLast Go.Proofs.YtineikfhfmiidaaGreatW.PrintMore
set_option linter.unusedVariables false
set_option linter.unusedSimpArgs false
end Go.Proofs.YtineikfhfmiidaaGreat.Gp
namespace Go.Proofs.YtineikfhfmiidaaGreat.Gp
open Go.RowKit Go.Proofs.YtineikfhfmiidaaGreatW.PrintWords Go.Proofs.YtineikfhfmiidaaGreatW.PrintLast Go.Proofs.YtineikfhfmiidaaGreatW.PrintMore
set_option linter.unusedVariables false
set_option linter.unusedSimpArgs false
end Go.Proofs.YtineikfhfmiidaaGreat.Gp
namespace Go.Proofs.YtineikfhfmiidaaGreat.Gp
open Go.RowKit Go.Proofs.YtineikfhfmiidaaGreatW.PrintWords Go.Proofs.YtineikfhfmiidaaGreatW.PrintLast Go.Proofs.YtineikfhfmiidaaGreatW.PrintMore
set_option linter.unusedVariables false
set_option linter.unusedSimpArgs false
end Go.Proofs.YtineikfhfmiidaaGreat.Gp
namespace Go.Proofs.YtineikfhfmiidaaGreat.Gp
open Go.RowKit Go.Proofs.YtineikfhfmiidaaGreatW.PrintWords Go.Proofs.YtineikfhfmiidaaGreatW.PrintLast Go.Proofs.YtineikfhfmiidaaGreatW.PrintMore
set_option linter.unusedVariables false
set_option linter.unusedSimpArgs false
end Go.Proofs.YtineikfhfmiidaaGreat.Gp
namespace Go.Proofs.YtineikfhfmiidaaGreat.Pm
open Go Go.RowKit Go.Proofs.YtineikfhfmiidaaGreatW.PrintWords Go.Proofs.YtineikfhfmiidaaGreatW.PrintLast Go.Proofs.YtineikfhfmiidaaGreatW.PrintMore
set_option linter.unusedVariables false
set_option linter.unusedSimpArgs false
/-- Of all places below n. -/
def allAt (n : Nat) (q : Nat → Bool) : Bool := (List.range n).all q
theorem allAt_bad {n : Nat} {q : Nat → Bool} {i : Nat} (hi : i < n) (h : q i = false) : allAt n q = false := by
  cases hd : allAt n q with
  | false => rfl
  | true =>
    unfold allAt at hd
    rw [List.all_eq_true] at hd
    rw [hd i (List.mem_range.2 hi)] at h
    cases h
theorem allAt_all {n : Nat} {q : Nat → Bool} (h : ∀ i, i < n → q i = true) : allAt n q = true := by
  unfold allAt
  rw [List.all_eq_true]
  exact fun i hi => h i (List.mem_range.1 hi)
theorem allAt_true {n : Nat} {q : Nat → Bool} (h : allAt n q = true) : ∀ i, i < n → q i = true := by
  unfold allAt at h
  rw [List.all_eq_true] at h
  exact fun i hi => h i (List.mem_range.2 hi)
/-- What stands ahead of place i; -1 ahead of the first. -/
def prevI (l : List Int) (i : Nat) : Int := if i = 0 then -1 else l.getD (i - 1) 0
def okAt (n : Int) (l : List Int) (i : Nat) : Bool := decide (prevI l i < l.getD i 0) && decide (l.getD i 0 < n)
/-- Numbers that rise, from 0 below n? -/
def upB (n : Int) (l : List Int) : Bool := allAt l.length (okAt n l)
theorem okAt_iff {n : Int} {l : List Int} {i : Nat} : okAt n l i = true ↔ prevI l i < l.getD i 0 ∧ l.getD i 0 < n := by
  unfold okAt
  rw [Bool.and_eq_true, decide_eq_true_iff, decide_eq_true_iff]
theorem okAt_no {n : Int} {l : List Int} {i : Nat} (h : ¬ (prevI l i < l.getD i 0 ∧ l.getD i 0 < n)) : okAt n l i = false := by
  cases hd : okAt n l i with
  | false => rfl
  | true => exact absurd (okAt_iff.1 hd) h
theorem prevI_succ (l : List Int) (i : Nat) : prevI l (i + 1) = l.getD i 0 := by
  unfold prevI
  rw [if_neg (by omega)]
  rfl
theorem prevI_low {n : Int} {l : List Int} : ∀ {i : Nat}, (∀ j, j < i → okAt n l j = true) → -1 ≤ prevI l i ∧ (0 < i → 0 ≤ prevI l i)
  | 0, _ => ⟨Int.le_refl _, fun h => by omega⟩
  | i + 1, h => by
    have h1 := (prevI_low (i := i) (fun j hj => h j (by omega))).1
    have h2 := okAt_iff.1 (h i (by omega))
    rw [prevI_succ]
    exact ⟨by omega, fun _ => by omega⟩
theorem folk_ev (l : List Int) (n : Int) (hl : l.length ≤ 9223372036854775807) : ∀ d i : Nat, d + i = l.length → (∀ j, j < i → okAt n l j = true) → Ev (fun k => Gq.class_folk.l0 k l n (prevI l i) l (l.length : Int) (i : Int)) (upB n l && decide (l.length ≤ 4)) := by
  intro d
  induction d with
  | zero =>
    intro i hi hj
    rw [show upB n l = true from allAt_all (fun j h => hj j (by omega)), Bool.true_and]
    refine Ev.step (f := fun _ => some (decide (l.length ≤ 4))) (fun k => ?_) (Ev.now _)
    simp only [Gq.class_folk.l0]
    rw [if_neg (by omega)]
    congr 1
    exact decide_eq_decide.2 (by omega)
  | succ d ih =>
    intro i hi hj
    by_cases h1 : l.getD i 0 ≤ prevI l i
    · rw [show upB n l = false from allAt_bad (i := i) (by omega) (okAt_no (by omega)), Bool.false_and]
      refine Ev.step (f := fun _ => some false) (fun k => ?_) (Ev.now _)
      simp only [Gq.class_folk.l0]
      rw [if_pos (by omega), if_pos (by omega), if_pos (by omega), rd_nat, if_pos h1]
    · by_cases h2 : l.getD i 0 ≥ n
      · rw [show upB n l = false from allAt_bad (i := i) (by omega) (okAt_no (by omega)), Bool.false_and]
        refine Ev.step (f := fun _ => some false) (fun k => ?_) (Ev.now _)
        simp only [Gq.class_folk.l0]
        rw [if_pos (by omega), if_pos (by omega), if_pos (by omega), rd_nat, if_neg h1, if_pos h2]
      · refine Ev.step (fun k => ?_) (ih (i + 1) (by omega) (fun j h => ?_))
        · simp only [Gq.class_folk.l0]
          rw [if_pos (by omega), if_pos (by omega), if_pos (by omega), rd_nat, if_neg h1, if_neg h2, wr1 (by omega), prevI_succ]
        · by_cases e : j = i
          · rw [e]; exact okAt_iff.2 ⟨by omega, by omega⟩
          · exact hj j (by omega)
def folkB (n : Int) (l : List Int) : Bool := upB n l && decide (l.length ≤ 4)
theorem qfolk (l : List Int) (n : Int) (hl : l.length ≤ 9223372036854775807) : Ev (fun k => Gq.class_folk.f k l n) (folkB n l) := folk_ev l n hl l.length 0 rfl (fun j hj => by omega)
theorem ris_up (l : List Int) (n : Int) (hl : l.length ≤ 9223372036854775807) : ∀ d i : Nat, d + i = l.length → (∀ j, j < i → okAt n l j = true) → Ev (fun k => Gp.horariumref13_Rising.l0 k l n (i : Int)) (upB n l) := by
  intro d
  induction d with
  | zero =>
    intro i hi hj
    rw [show upB n l = true from allAt_all (fun j h => hj j (by omega))]
    refine Ev.step (f := fun _ => some true) (fun k => ?_) (Ev.now _)
    simp only [Gp.horariumref13_Rising.l0]
    rw [if_neg (by omega)]
  | succ d ih =>
    intro i hi hj
    have hp := prevI_low hj
    have bad : ¬ (prevI l i < l.getD i 0 ∧ l.getD i 0 < n) → upB n l = false := fun h => allAt_bad (i := i) (by omega) (okAt_no h)
    have good : (prevI l i < l.getD i 0 ∧ l.getD i 0 < n) → ∀ j, j < i + 1 → okAt n l j = true := fun h j hji => by
      by_cases e : j = i
      · rw [e]; exact okAt_iff.2 h
      · exact hj j (by omega)
    by_cases h1 : l.getD i 0 < 0
    · rw [bad (by omega)]
      refine Ev.step (f := fun _ => some false) (fun k => ?_) (Ev.now _)
      simp only [Gp.horariumref13_Rising.l0]
      rw [if_pos (by omega), if_pos (by omega), rd_nat, if_pos h1]
    · by_cases h2 : l.getD i 0 ≥ n
      · rw [bad (by omega)]
        refine Ev.step (f := fun _ => some false) (fun k => ?_) (Ev.now _)
        simp only [Gp.horariumref13_Rising.l0]
        rw [if_pos (by omega), if_pos (by omega), rd_nat, if_neg h1, if_pos h2]
      · by_cases h3 : 0 < i
        · have hw : wrap64 ((i : Int) - 1) = ((i - 1 : Nat) : Int) := by unfold wrap64; omega
          have hpv : prevI l i = l.getD (i - 1) 0 := by unfold prevI; rw [if_neg (by omega)]
          by_cases h4 : l.getD i 0 ≤ l.getD (i - 1) 0
          · rw [bad (by rw [hpv]; omega)]
            refine Ev.step (f := fun _ => some false) (fun k => ?_) (Ev.now _)
            simp only [Gp.horariumref13_Rising.l0]
            rw [if_pos (by omega), if_pos (by omega), rd_nat, if_neg h1, if_neg h2, if_pos (by omega), hw, if_pos (by omega), if_pos (by omega), rd_nat, if_pos h4]
          · refine Ev.step (fun k => ?_) (ih (i + 1) (by omega) (good (by rw [hpv]; omega)))
            simp only [Gp.horariumref13_Rising.l0]
            rw [if_pos (by omega), if_pos (by omega), rd_nat, if_neg h1, if_neg h2, if_pos (by omega), hw, if_pos (by omega), if_pos (by omega), rd_nat, if_neg h4, wr1 (by omega)]
        · refine Ev.step (fun k => ?_) (ih (i + 1) (by omega) (good (by rw [show prevI l i = -1 by unfold prevI; rw [if_pos (by omega)]]; omega)))
          simp only [Gp.horariumref13_Rising.l0]
          rw [if_pos (by omega), if_pos (by omega), rd_nat, if_neg h1, if_neg h2, if_neg (by omega), wr1 (by omega)]
theorem rris (l : List Int) (n : Int) (hl : l.length ≤ 9223372036854775807) : Ev (fun k => Gp.horariumref13_Rising.f k l n) (upB n l) := ris_up l n hl l.length 0 rfl (fun j hj => by omega)
/-- Numbers that rise? -/
def risesB (l : List Int) : Bool := allAt l.length (fun i => decide (i = 0) || decide (l.getD (i - 1) 0 < l.getD i 0))
theorem rises_ev (l : List Int) (hl : l.length ≤ 9223372036854775807) : ∀ d i : Nat, 1 ≤ i → l.length ≤ d + i → (∀ j, j < i → (decide (j = 0) || decide (l.getD (j - 1) 0 < l.getD j 0)) = true) → Ev (fun k => Gq.problem_rising.l0 k l (i : Int)) (risesB l) := by
  intro d
  induction d with
  | zero =>
    intro i h1 hi hj
    rw [show risesB l = true from allAt_all (fun j h => hj j (by omega))]
    refine Ev.step (f := fun _ => some true) (fun k => ?_) (Ev.now _)
    simp only [Gq.problem_rising.l0]
    rw [if_neg (by omega)]
  | succ d ih =>
    intro i h1 hi hj
    by_cases hil : i < l.length
    · have hw : wrap64 ((i : Int) - 1) = ((i - 1 : Nat) : Int) := by unfold wrap64; omega
      by_cases h4 : l.getD (i - 1) 0 ≥ l.getD i 0
      · rw [show risesB l = false from allAt_bad (i := i) hil (by rw [decide_eq_false (show ¬ i = 0 by omega), decide_eq_false (by omega)]; rfl)]
        refine Ev.step (f := fun _ => some false) (fun k => ?_) (Ev.now _)
        simp only [Gq.problem_rising.l0]
        rw [if_pos (by omega), hw, if_pos (by omega), if_pos (by omega), if_pos (by omega), rd_nat, rd_nat, if_pos h4]
      · refine Ev.step (fun k => ?_) (ih (i + 1) (by omega) (by omega) (fun j h => ?_))
        · simp only [Gq.problem_rising.l0]
          rw [if_pos (by omega), hw, if_pos (by omega), if_pos (by omega), if_pos (by omega), rd_nat, rd_nat, if_neg h4, wr1 (by omega)]
        · by_cases e : j = i
          · rw [e, decide_eq_true (show l.getD (i - 1) 0 < l.getD i 0 by omega), Bool.or_true]
          · exact hj j (by omega)
    · rw [show risesB l = true from allAt_all (fun j h => hj j (by omega))]
      refine Ev.step (f := fun _ => some true) (fun k => ?_) (Ev.now _)
      simp only [Gq.problem_rising.l0]
      rw [if_neg (by omega)]
theorem qrises (l : List Int) (hl : l.length ≤ 9223372036854775807) : Ev (fun k => Gq.problem_rising.f k l) (risesB l) := rises_ev l hl l.length 1 (by omega) (by omega) (fun j hj => by rw [decide_eq_true (show j = 0 by omega)]; rfl)
theorem up_of (l : List Int) (n : Int) : (risesB l && dstB n l) = upB n l := by
  rw [Bool.eq_iff_iff, Bool.and_eq_true]
  constructor
  · rintro ⟨h1, h2⟩
    have h1' := allAt_true h1
    unfold dstB at h2
    rw [Bool.and_eq_true, List.all_eq_true] at h2
    refine allAt_all (fun i hi => okAt_iff.2 ?_)
    have h3 := h2.1 _ (memD l i hi)
    rw [Bool.and_eq_true, decide_eq_true_iff, decide_eq_true_iff] at h3
    have h4 := h1' i hi
    unfold prevI
    by_cases e : i = 0
    · rw [if_pos e]; omega
    · rw [if_neg e]
      rw [decide_eq_false e, Bool.false_or, decide_eq_true_iff] at h4
      omega
  · intro h
    have h' := allAt_true h
    have hlow : ∀ i, i < l.length → 0 ≤ l.getD i 0 ∧ l.getD i 0 < n := fun i hi => by
      have h1 := (prevI_low (i := i) (fun j hj => h' j (by omega))).1
      have h2 := okAt_iff.1 (h' i hi)
      omega
    have hst : ∀ i, i < l.length → 0 < i → l.getD (i - 1) 0 < l.getD i 0 := fun i hi h0 => by
      have h2 := okAt_iff.1 (h' i hi)
      unfold prevI at h2
      rw [if_neg (by omega)] at h2
      exact h2.1
    refine ⟨allAt_all (fun i hi => ?_), ?_⟩
    · by_cases e : i = 0
      · rw [decide_eq_true e]; rfl
      · rw [decide_eq_true (hst i hi (by omega)), Bool.or_true]
    · have hmono : ∀ d i, i + d < l.length → 0 < d → l.getD i 0 < l.getD (i + d) 0 := by
        intro d
        induction d with
        | zero => intro i _ h; omega
        | succ d ih =>
          intro i hi _
          have h5 := hst (i + (d + 1)) hi (by omega)
          rw [show i + (d + 1) - 1 = i + d by omega] at h5
          by_cases e : d = 0
          · subst e; exact h5
          · have := ih i (by omega) (by omega)
            omega
      unfold dstB
      rw [Bool.and_eq_true, List.all_eq_true, decide_eq_true_iff]
      refine ⟨fun x hx => ?_, ?_⟩
      · obtain ⟨j, hj, rfl⟩ := List.getElem_of_mem hx
        have := hlow j hj
        rw [List.getD_eq_getElem?_getD, List.getElem?_eq_getElem hj] at this
        rw [Bool.and_eq_true, decide_eq_true_iff, decide_eq_true_iff]
        exact this
      · rw [List.nodup_iff_pairwise_ne, List.pairwise_iff_getElem]
        intro i j hi hj hij
        have := hmono (j - i) i (by omega) (by omega)
        rw [show i + (j - i) = j by omega, List.getD_eq_getElem?_getD, List.getD_eq_getElem?_getD, List.getElem?_eq_getElem hi, List.getElem?_eq_getElem hj] at this
        intro e
        rw [e] at this
        exact absurd this (Int.lt_irrefl _)
end Go.Proofs.YtineikfhfmiidaaGreat.Pm
namespace Go.Proofs.YtineikfhfmiidaaGreat.Pm
open Go Go.RowKit Go.Proofs.YtineikfhfmiidaaGreat.Gp Go.Proofs.YtineikfhfmiidaaGreat.Mw Go.Proofs.YtineikfhfmiidaaGreatW.PrintWords Go.Proofs.YtineikfhfmiidaaGreatW.PrintLast Go.Proofs.YtineikfhfmiidaaGreatW.PrintMore
set_option linter.unusedVariables false
set_option linter.unusedSimpArgs false
/-- May a class be? -/
noncomputable def classB (g0 g1 g2 nr np nc : Int) (x : S58) : Bool := gridB g0 g1 g2 && (nameB x.f0 && (decide (0 ≤ x.f1) && (decide (x.f1 ≤ 10000) && (decide (-1 ≤ x.f6) && (decide (x.f6 < nc) && (folkB np x.f3 && (timesB g0 g1 g2 x.f4 && placesB nr x.f5)))))))
theorem QFolk_is (w : World) (n : Int) (A : Option Addr) (c : Nat) (l : List Int) (h : Kd.C (Kd.int .i64) w A l.length l) (hc : l.length ≤ c) :
    Calls Tryz.prog 126 #[.slice A l.length c, .int .i64 n] w fun e w' => e = .returned (.bool (folkB n l)) ∧ Below w.heap.size w w' := by
  obtain ⟨k, hk⟩ := (qfolk l n (Kd.C_max h)).rounds
  refine (Gq.class_folk.calls k A c l n _ w h hc hk).mono ?_
  rintro e w' ⟨rfl, hD⟩
  exact ⟨rfl, hD.below⟩
set_option maxRecDepth 100000 in
set_option maxHeartbeats 4000000 in
theorem RightClass_is (w : World) (g0 g1 g2 nr np nc : Int) (x : S58) (B3 : Option Addr) (d3 : Nat) (B4 : Option Addr) (d4 : Nat) (B5 : Option Addr) (d5 : Nat) (h3 : Kd.C (Kd.int .i64) w B3 x.f3.length x.f3) (l3 : x.f3.length ≤ d3) (h4 : Kd.C k117 w B4 x.f4.length x.f4) (h5 : Kd.C k120 w B5 x.f5.length x.f5) (hnr : nr ≤ 9223372036854775807) (hg : ∀ y, y ∈ x.f4 → GoodV y.f0) :
    Calls Tryz.prog 48 #[.agg #[.int .i64 g0, .int .i64 g1, .int .i64 g2], .int .i64 nr, .int .i64 np, .int .i64 nc, .agg #[.string x.f0, .int .i64 x.f1, .int .u16 x.f2, .slice B3 x.f3.length d3, .slice B4 x.f4.length d4, .slice B5 x.f5.length d5, .int .i64 x.f6]] w fun e w' => e = .returned (.bool (classB g0 g1 g2 nr np nc x)) ∧ Below w.heap.size w w' := by
  have HC3 := Aside0.mk h3
  have HL3 := Aside0.mk l3
  clear h3 l3
  have HC4 := Aside0.mk h4
  have HC5 := Aside0.mk h5
  have HS4 := Aside0.mk (Kd.C_max h4)
  have HS5 := Aside0.mk (Kd.C_max h5)
  have HNR := Aside0.mk hnr
  have HG := Aside0.mk hg
  clear h4 h5 hnr hg
  have hut := Tryz.underlying58
  have hug := Tryz.underlying23
  unfold classB
  generalize hqb1 : gridB g0 g1 g2 = b1
  have Fb1 := Aside0.mk hqb1
  clear hqb1
  generalize hqb2 : nameB x.f0 = b2
  have Fb2 := Aside0.mk hqb2
  clear hqb2
  generalize hqb3 : folkB np x.f3 = b3
  have Fb3 := Aside0.mk hqb3
  clear hqb3
  generalize hqb4 : timesB g0 g1 g2 x.f4 = b4
  have Fb4 := Aside0.mk hqb4
  clear hqb4
  generalize hqb5 : placesB nr x.f5 = b5
  have Fb5 := Aside0.mk hqb5
  clear hqb5
  go_enter Tryz.func48, Tryz.ntmps48
  go_wp2_with (first
    | ((with_reducible refine gate_dst (N := 5) rfl ?_); refine box_event ?hg (N := 5) ?hd (cs := #[.int .i64 g0, .int .i64 g1, .int .i64 g2]) (t := 23) ?hr ?_; (case hd => rfl); (case hg => rfl); (case hr => first | (go_simp; done) | (go_simp; rfl)); intro gx hgx w2 hbox hB; have HP := Aside0.mk (PBox.mk hbox hB (show w.heap.size ≤ gx by rw [hgx]; exact Nat.le_refl _)); clear hbox hB hgx)
    | ((with_reducible refine gate_dst (N := 9) rfl ?_); refine box_event ?hg (N := 9) ?hd (cs := #[.string x.f0, .int .i64 x.f1, .int .u16 x.f2, .slice B3 x.f3.length d3, .slice B4 x.f4.length d4, .slice B5 x.f5.length d5, .int .i64 x.f6]) (t := 58) ?hr ?_; (case hd => rfl); (case hg => rfl); (case hr => first | (go_simp; done) | (go_simp; rfl)); intro gx hgx w2 hbox hB; have C2 := Aside0.mk (And.intro (HP.out.below hB) (PBox.mk hbox (below_then HP.out.bel HP.out.bel.size hB) (show w.heap.size ≤ gx by rw [hgx]; exact HP.out.bel.size))); clear HP; have hc0 := C2.out.1.cell 0 rfl; have hc1 := C2.out.1.cell 1 rfl; have hc2 := C2.out.1.cell 2 rfl; have hd0 := C2.out.2.cell 0 rfl; have hd1 := C2.out.2.cell 1 rfl; have hd2 := C2.out.2.cell 2 rfl; have hd3 := C2.out.2.cell 3 rfl; have hd4 := C2.out.2.cell 4 rfl; have hd5 := C2.out.2.cell 5 rfl; have hd6 := C2.out.2.cell 6 rfl; clear hbox hB hgx)
    | (go_at_call 35; refine (Gq.when_RightGrid.calls g0 g1 g2 _ _ (qgrid g0 g1 g2)).mono ?_; rintro e w4 ⟨rfl, hB⟩; rw [Fb1.out]; have CQ := Aside0.mk (And.intro (C2.out.1.below hB) (C2.out.2.below hB)); clear C2 hB hc0 hc1 hc2 hd0 hd1 hd2 hd3 hd4 hd5 hd6; have C2 := CQ; clear CQ; have hc0 := C2.out.1.cell 0 rfl; have hc1 := C2.out.1.cell 1 rfl; have hc2 := C2.out.1.cell 2 rfl; have hd0 := C2.out.2.cell 0 rfl; have hd1 := C2.out.2.cell 1 rfl; have hd2 := C2.out.2.cell 2 rfl; have hd3 := C2.out.2.cell 3 rfl; have hd4 := C2.out.2.cell 4 rfl; have hd5 := C2.out.2.cell 5 rfl; have hd6 := C2.out.2.cell 6 rfl)
    | (go_at_call 34; refine (Gq.room_Name.calls x.f0 _ _ (qname x.f0)).mono ?_; rintro e w4 ⟨rfl, hD⟩; have hB := hD.below; clear hD; rw [Fb2.out]; have CQ := Aside0.mk (And.intro (C2.out.1.below hB) (C2.out.2.below hB)); clear C2 hB hc0 hc1 hc2 hd0 hd1 hd2 hd3 hd4 hd5 hd6; have C2 := CQ; clear CQ; have hc0 := C2.out.1.cell 0 rfl; have hc1 := C2.out.1.cell 1 rfl; have hc2 := C2.out.1.cell 2 rfl; have hd0 := C2.out.2.cell 0 rfl; have hd1 := C2.out.2.cell 1 rfl; have hd2 := C2.out.2.cell 2 rfl; have hd3 := C2.out.2.cell 3 rfl; have hd4 := C2.out.2.cell 4 rfl; have hd5 := C2.out.2.cell 5 rfl; have hd6 := C2.out.2.cell 6 rfl)
    | (go_at_call 126; refine (QFolk_is _ np B3 d3 x.f3 (Kd.C_below HC3.out C2.out.1.bel) HL3.out).mono ?_; rintro e w4 ⟨rfl, hB⟩; rw [Fb3.out]; have CQ := Aside0.mk (And.intro (C2.out.1.below hB) (C2.out.2.below hB)); clear C2 hB hc0 hc1 hc2 hd0 hd1 hd2 hd3 hd4 hd5 hd6; have C2 := CQ; clear CQ; have hc0 := C2.out.1.cell 0 rfl; have hc1 := C2.out.1.cell 1 rfl; have hc2 := C2.out.1.cell 2 rfl; have hd0 := C2.out.2.cell 0 rfl; have hd1 := C2.out.2.cell 1 rfl; have hd2 := C2.out.2.cell 2 rfl; have hd3 := C2.out.2.cell 3 rfl; have hd4 := C2.out.2.cell 4 rfl; have hd5 := C2.out.2.cell 5 rfl; have hd6 := C2.out.2.cell 6 rfl)
    | (go_at_call 127; refine (times_is _ B4 x.f4.length d4 x.f4 g0 g1 g2 rfl (Kd.C_below HC4.out C2.out.1.bel) HS4.out HG.out).mono ?_; rintro e w4 ⟨rfl, hB⟩; rw [Fb4.out]; have CQ := Aside0.mk (And.intro (C2.out.1.below hB) (C2.out.2.below hB)); clear C2 hB hc0 hc1 hc2 hd0 hd1 hd2 hd3 hd4 hd5 hd6; have C2 := CQ; clear CQ; have hc0 := C2.out.1.cell 0 rfl; have hc1 := C2.out.1.cell 1 rfl; have hc2 := C2.out.1.cell 2 rfl; have hd0 := C2.out.2.cell 0 rfl; have hd1 := C2.out.2.cell 1 rfl; have hd2 := C2.out.2.cell 2 rfl; have hd3 := C2.out.2.cell 3 rfl; have hd4 := C2.out.2.cell 4 rfl; have hd5 := C2.out.2.cell 5 rfl; have hd6 := C2.out.2.cell 6 rfl)
    | (go_at_call 128; refine (places_is _ B5 x.f5.length d5 x.f5 nr rfl (Kd.C_below HC5.out C2.out.1.bel) HS5.out HNR.out).mono ?_; rintro e w4 ⟨rfl, hB⟩; rw [Fb5.out]; have CQ := Aside0.mk (And.intro (C2.out.1.below hB) (C2.out.2.below hB)); clear C2 hB hc0 hc1 hc2 hd0 hd1 hd2 hd3 hd4 hd5 hd6; have C2 := CQ; clear CQ; have hc0 := C2.out.1.cell 0 rfl; have hc1 := C2.out.1.cell 1 rfl; have hc2 := C2.out.1.cell 2 rfl; have hd0 := C2.out.2.cell 0 rfl; have hd1 := C2.out.2.cell 1 rfl; have hd2 := C2.out.2.cell 2 rfl; have hd3 := C2.out.2.cell 3 rfl; have hd4 := C2.out.2.cell 4 rfl; have hd5 := C2.out.2.cell 5 rfl; have hd6 := C2.out.2.cell 6 rfl))
  all_goals
    go_ret
    refine ⟨?_, C2.out.1.bel⟩
    try (first | rw [show b1 = true from ‹b1 = true›] | rw [show b1 = false from Bool.eq_false_iff.2 ‹¬b1 = true›] | rw [notT ‹(!b1) = true›] | rw [notF ‹(!b1) = false›])
    try (first | rw [show b2 = true from ‹b2 = true›] | rw [show b2 = false from Bool.eq_false_iff.2 ‹¬b2 = true›] | rw [notT ‹(!b2) = true›] | rw [notF ‹(!b2) = false›])
    try (first | rw [show b3 = true from ‹b3 = true›] | rw [show b3 = false from Bool.eq_false_iff.2 ‹¬b3 = true›] | rw [notT ‹(!b3) = true›] | rw [notF ‹(!b3) = false›])
    try (first | rw [show b4 = true from ‹b4 = true›] | rw [show b4 = false from Bool.eq_false_iff.2 ‹¬b4 = true›] | rw [notT ‹(!b4) = true›] | rw [notF ‹(!b4) = false›])
    try (first | rw [show b5 = true from ‹b5 = true›] | rw [show b5 = false from Bool.eq_false_iff.2 ‹¬b5 = true›] | rw [notT ‹(!b5) = true›] | rw [notF ‹(!b5) = false›])
    try (first | rw [decide_eq_true (show 0 ≤ x.f1 by omega)] | rw [decide_eq_false (show ¬ (0 ≤ x.f1) by omega)])
    try (first | rw [decide_eq_true (show x.f1 ≤ 10000 by omega)] | rw [decide_eq_false (show ¬ (x.f1 ≤ 10000) by omega)])
    try (first | rw [decide_eq_true (show -1 ≤ x.f6 by omega)] | rw [decide_eq_false (show ¬ (-1 ≤ x.f6) by omega)])
    try (first | rw [decide_eq_true (show x.f6 < nc by omega)] | rw [decide_eq_false (show ¬ (x.f6 < nc) by omega)])
    first | rfl | exact congrArg _ (congrArg _ (decide_eq_decide.2 (by omega)))
end Go.Proofs.YtineikfhfmiidaaGreat.Pm
namespace Go.Proofs.YtineikfhfmiidaaGreat.Pm
open Go Go.RowKit Go.Proofs.YtineikfhfmiidaaGreat.Gp Go.Proofs.YtineikfhfmiidaaGreat.Mw Go.Proofs.YtineikfhfmiidaaGreatW.PrintWords Go.Proofs.YtineikfhfmiidaaGreatW.PrintLast Go.Proofs.YtineikfhfmiidaaGreatW.PrintMore
set_option linter.unusedVariables false
set_option linter.unusedSimpArgs false
/-- May a student be? -/
def studentB (nc : Int) (x : S66) : Bool := nameB x.f0 && (decide (x.f1.length ≤ 6) && (risesB x.f1 && dstB nc x.f1))
theorem QRises_is (w : World) (A : Option Addr) (c : Nat) (l : List Int) (h : Kd.C (Kd.int .i64) w A l.length l) (hc : l.length ≤ c) :
    Calls Tryz.prog 130 #[.slice A l.length c] w fun e w' => e = .returned (.bool (risesB l)) ∧ Below w.heap.size w w' := by
  obtain ⟨k, hk⟩ := (qrises l (Kd.C_max h)).rounds
  refine (Gq.problem_rising.calls k A c l _ w h hc hk).mono ?_
  rintro e w' ⟨rfl, hD⟩
  exact ⟨rfl, hD.below⟩
theorem pcn {w wr : World} {g : Nat} {t : TypeId} {p : PV} {a : PA} (h : PBox w wr g t (pcs p a)) : wr.cell? ⟨g, 8, none⟩ = some (.slice a.A8 p.courses.length a.c8) := h.cell 8 rfl
set_option maxRecDepth 100000 in
set_option maxHeartbeats 4000000 in
theorem student_is (w : World) (p : PV) (a : PA) (x : S66) (B1 : Option Addr) (d1 : Nat) (h1 : Kd.C (Kd.int .i64) w B1 x.f1.length x.f1) (l1 : x.f1.length ≤ d1) (hn : p.courses.length ≤ 400) :
    Calls Tryz.prog 56 #[.agg (pcs p a), .agg #[.string x.f0, .slice B1 x.f1.length d1]] w fun e w' => e = .returned (.bool (studentB (p.courses.length : Int) x)) ∧ Below w.heap.size w w' := by
  have HC1 := Aside0.mk h1
  have HL1 := Aside0.mk l1
  clear h1 l1
  have HN : Aside0 ((p.courses.length : Int) ≤ 9223372036854775807) := ⟨by omega⟩
  clear hn
  have hut := Tryz.underlying66
  have hug := Tryz.underlying34
  unfold studentB
  generalize hqb2 : nameB x.f0 = b2
  have Fb2 := Aside0.mk hqb2
  clear hqb2
  generalize hqb3 : risesB x.f1 = b3
  have Fb3 := Aside0.mk hqb3
  clear hqb3
  generalize hqb4 : dstB (p.courses.length : Int) x.f1 = b4
  have Fb4 := Aside0.mk hqb4
  clear hqb4
  go_enter Tryz.func56, Tryz.ntmps56
  go_wp2_with (first
    | ((with_reducible refine gate_dst (N := 2) rfl ?_); refine box_event ?hg (N := 2) ?hd (cs := pcs p a) (t := 34) ?hr ?_; (case hd => rfl); (case hg => rfl); (case hr => first | (go_simp; done) | (go_simp; rfl)); intro gx hgx w2 hbox hB; have HP := Aside0.mk (PBox.mk hbox hB (show w.heap.size ≤ gx by rw [hgx]; exact Nat.le_refl _)); clear hbox hB hgx)
    | ((with_reducible refine gate_dst (N := 3) rfl ?_); refine box_event ?hg (N := 3) ?hd (cs := #[.string x.f0, .slice B1 x.f1.length d1]) (t := 66) ?hr ?_; (case hd => rfl); (case hg => rfl); (case hr => first | (go_simp; done) | (go_simp; rfl)); intro gx hgx w2 hbox hB; have C2 := Aside0.mk (And.intro (HP.out.below hB) (PBox.mk hbox (below_then HP.out.bel HP.out.bel.size hB) (show w.heap.size ≤ gx by rw [hgx]; exact HP.out.bel.size))); clear HP; have hc0 := pcn C2.out.1; have hd0 := C2.out.2.cell 0 rfl; have hd1 := C2.out.2.cell 1 rfl; clear hbox hB hgx)
    | (go_at_call 34; refine (Gq.room_Name.calls x.f0 _ _ (qname x.f0)).mono ?_; rintro e w4 ⟨rfl, hD⟩; have hB := hD.below; clear hD; rw [Fb2.out]; have CQ := Aside0.mk (And.intro (C2.out.1.below hB) (C2.out.2.below hB)); clear C2 hB hc0 hd0 hd1; have C2 := CQ; clear CQ; have hc0 := pcn C2.out.1; have hd0 := C2.out.2.cell 0 rfl; have hd1 := C2.out.2.cell 1 rfl)
    | (go_at_call 130; refine (QRises_is _ B1 d1 x.f1 (Kd.C_below HC1.out C2.out.1.bel) HL1.out).mono ?_; rintro e w4 ⟨rfl, hB⟩; rw [Fb3.out]; have CQ := Aside0.mk (And.intro (C2.out.1.below hB) (C2.out.2.below hB)); clear C2 hB hc0 hd0 hd1; have C2 := CQ; clear CQ; have hc0 := pcn C2.out.1; have hd0 := C2.out.2.cell 0 rfl; have hd1 := C2.out.2.cell 1 rfl)
    | (go_at_call 120; refine (distinct_is _ B1 x.f1.length d1 x.f1 (p.courses.length : Int) rfl (Kd.C_below HC1.out C2.out.1.bel) HL1.out (by omega) HN.out).mono ?_; rintro e w4 ⟨rfl, hB⟩; rw [Fb4.out]; have CQ := Aside0.mk (And.intro (C2.out.1.below hB) (C2.out.2.below hB)); clear C2 hB hc0 hd0 hd1; have C2 := CQ; clear CQ; have hc0 := pcn C2.out.1; have hd0 := C2.out.2.cell 0 rfl; have hd1 := C2.out.2.cell 1 rfl))
  all_goals
    go_ret
    refine ⟨?_, C2.out.1.bel⟩
    try (first | rw [show b2 = true from ‹b2 = true›] | rw [show b2 = false from Bool.eq_false_iff.2 ‹¬b2 = true›] | rw [notT ‹(!b2) = true›] | rw [notF ‹(!b2) = false›])
    try (first | rw [show b3 = true from ‹b3 = true›] | rw [show b3 = false from Bool.eq_false_iff.2 ‹¬b3 = true›] | rw [notT ‹(!b3) = true›] | rw [notF ‹(!b3) = false›])
    try (first | rw [show b4 = true from ‹b4 = true›] | rw [show b4 = false from Bool.eq_false_iff.2 ‹¬b4 = true›] | rw [notT ‹(!b4) = true›] | rw [notF ‹(!b4) = false›])
    try (first | rw [decide_eq_true (show x.f1.length ≤ 6 by omega)] | rw [decide_eq_false (show ¬ (x.f1.length ≤ 6) by omega)])
    first | rfl | exact congrArg _ (congrArg _ (decide_eq_decide.2 (by omega)))
end Go.Proofs.YtineikfhfmiidaaGreat.Pm
namespace Go.Proofs.YtineikfhfmiidaaGreat.Pm
open Go Go.RowKit Go.Proofs.YtineikfhfmiidaaGreat.Gp Go.Proofs.YtineikfhfmiidaaGreat.Mw Go.Proofs.YtineikfhfmiidaaGreatW.PrintWords Go.Proofs.YtineikfhfmiidaaGreatW.PrintLast Go.Proofs.YtineikfhfmiidaaGreatW.PrintMore
set_option linter.unusedVariables false
set_option linter.unusedSimpArgs false
theorem grown_refl (w : World) (r : Option Nat) : w.grownBy w r := ⟨rfl, rfl, rfl, Nat.le_refl _, fun _ _ _ => rfl⟩
theorem grown_trans {w w1 w2 : World} {r : Option Nat} (h : w.grownBy w1 r) (k : w1.grownBy w2 r) : w.grownBy w2 r :=
  ⟨k.os.trans h.os, k.tape.trans h.tape, k.output.trans h.output, Nat.le_trans h.size k.size, fun i hi hr => (k.block i (Nat.lt_of_lt_of_le hi h.size) hr).trans (h.block i hi hr)⟩
def SeenL (met : List Int) (f : Int → Option Bool) : Prop := ∀ k, f k = if k ∈ met then some true else none
theorem SeenL.step {met : List Int} {f : Int → Option Bool} (h : SeenL met f) (x : Int) : SeenL (met ++ [x]) (upd f x (some true)) := by
  intro k
  unfold upd
  by_cases e : k = x
  · rw [if_pos e, if_pos (List.mem_append_right _ (List.mem_singleton.2 e))]
  · rw [if_neg e, h k]
    by_cases hm : k ∈ met
    · rw [if_pos hm, if_pos (List.mem_append_left _ hm)]
    · rw [if_neg hm, if_neg (fun h2 => ?_)]
      rcases List.mem_append.1 h2 with h3 | h3
      · exact hm h3
      · exact e (List.mem_singleton.1 h3)
/-- May a number stand at place i of a part, behind these? -/
def rowAt (n : Int) (met l : List Int) (i : Nat) : Bool := okAt n l i && decide (l.getD i 0 ∉ met)
/-- May a part be, behind these? -/
def rowB (n : Int) (met l : List Int) : Bool := allAt l.length (rowAt n met l) && (decide (0 < l.length) && decide (l.length ≤ 8))
theorem rowAt_no {n : Int} {met l : List Int} {i : Nat} (h : okAt n l i = false ∨ l.getD i 0 ∈ met) : rowAt n met l i = false := by
  unfold rowAt
  rcases h with h | h
  · rw [h, Bool.false_and]
  · rw [decide_eq_false (fun h2 => h2 h), Bool.and_false]
theorem rowAt_yes {n : Int} {met l : List Int} {i : Nat} (h : okAt n l i = true) (h2 : l.getD i 0 ∉ met) : rowAt n met l i = true := by
  unfold rowAt
  rw [h, decide_eq_true h2]
  rfl
theorem rowAt_ok {n : Int} {met l : List Int} {i : Nat} (h : rowAt n met l i = true) : okAt n l i = true := by
  unfold rowAt at h
  rw [Bool.and_eq_true] at h
  exact h.1
theorem up_short {n : Int} {l : List Int} : ∀ i : Nat, (∀ j, j < i → okAt n l j = true) → (i : Int) ≤ prevI l i + 1
  | 0, _ => by unfold prevI; simp
  | i + 1, h => by
    have h1 := up_short i (fun j hj => h j (by omega))
    have h2 := okAt_iff.1 (h i (by omega))
    rw [prevI_succ]
    omega
set_option maxRecDepth 100000 in
set_option maxHeartbeats 2000000 in
theorem row_is (w0 w : World) (A : Option Addr) (m c : Nat) (l met : List Int) (n : Int) (mb s : Nat) (f : Int → Option Bool) (hm : l.length = m) (hC : (Kd.int .i64).C w0 A l.length l) (hB0 : Below w0.heap.size w0 w) (hmb : w0.heap.size ≤ mb) (hn : n ≤ 100000) (hs : s ≤ 1000000000) (hM : MIs MIB w mb s f) (hF : SeenL met f) :
    Calls Tryz.prog 129 #[.slice A m c, .int .i64 n, .map (some mb)] w fun e w' => e = .returned (.bool (rowB n met l)) ∧ w.grownBy w' (some mb) ∧ (rowB n met l = true → ∃ s' f', MIs MIB w' mb s' f' ∧ SeenL (met ++ l) f' ∧ s' ≤ s + 100000) := by
  have hmx := Kd.C_max hC
  rw [hm] at hmx
  have HC := Aside0.mk hC
  have HM := Aside0.mk hm
  have HB0 := Aside0.mk hB0
  have HMB := Aside0.mk hmb
  have HMp := Aside0.mk hM
  have HF := Aside0.mk hF
  clear hC hm hB0 hmb hM hF
  go_enter Tryz.func129, Tryz.ntmps129
  go_wp2
  go_loopw [7, 14] (fun v7 v14 wr => ∃ i : Nat, i ≤ m ∧ v7 = .int .i64 (prevI l i) ∧ v14 = .int .i64 i ∧ Aside0 (∀ j, j < i → rowAt n met l j = true) ∧ Aside0 (wr = w)) (fun _ v14 _ => m - (intOf v14).toNat)
  case atStart => exact ⟨0, Nat.zero_le _, rfl, rfl, ⟨fun j hj => by omega⟩, ⟨rfl⟩⟩
  case round =>
    obtain ⟨i, hi, rfl, rfl, HN, HW⟩ := hrel
    obtain rfl := HW.out.symm
    clear HW
    by_cases him : i < m
    · have him2 : (i : Int) < (m : Int) := by omega
      have hic : i < l.length := by have := HM.out; omega
      obtain ⟨x, hx⟩ : ∃ x, x = l.getD i 0 := ⟨_, rfl⟩
      obtain ⟨q, hq⟩ : ∃ q, q = prevI l i := ⟨_, rfl⟩
      have hlow : -1 ≤ q := by rw [hq]; exact (prevI_low (n := n) (fun j hj => rowAt_ok (HN.out j hj))).1
      obtain ⟨ad, rfl, hcell⟩ := int_cell (Kd.C_below HC.out HB0.out) hic hx
      rw [← hq]
      have HX := Aside0.mk (And.intro hx hic)
      have HQ := Aside0.mk hq
      clear hx hic hq
      have HBad : Aside0 (¬ (q < x ∧ x < n) → rowB n met l = false) := ⟨fun h => by
        unfold rowB
        rw [allAt_bad HX.out.2 (rowAt_no (Or.inl (okAt_no (by rw [← HQ.out, ← HX.out.1]; exact h)))), Bool.false_and]⟩
      by_cases h0 : x ≤ q
      · have HR := Aside0.mk (HBad.out (by omega))
        go_wp2
        go_ret
        rw [HR.out]
        exact ⟨rfl, grown_refl _ _, fun h => by cases h⟩
      · have h0' : decide (x ≤ q) = false := decide_eq_false h0
        by_cases h1 : n ≤ x
        · have HR := Aside0.mk (HBad.out (by omega))
          go_wp2
          go_ret
          rw [HR.out]
          exact ⟨rfl, grown_refl _ _, fun h => by cases h⟩
        · have h1' : decide (n ≤ x) = false := decide_eq_false h1
          have HOK : Aside0 (MIB.ok x) := ⟨wf64 (by omega) (by omega)⟩
          by_cases h2 : x ∈ met
          · have HR : Aside0 (rowB n met l = false) := ⟨by
              unfold rowB
              rw [allAt_bad HX.out.2 (rowAt_no (Or.inr (by rw [← HX.out.1]; exact h2))), Bool.false_and]⟩
            have hlook : (Instr.lookup 157 (.map (some mb)) (.int .i64 x) false).run Tryz.prog w = .ok (.bool true) w := by
              have h3 := HMp.out.run_look x HOK.out
              rw [HF.out x, if_pos h2] at h3
              exact h3
            clear h2
            go_wp2
            go_ret
            rw [HR.out]
            exact ⟨rfl, grown_refl _ _, fun h => by cases h⟩
          · have hlook : (Instr.lookup 157 (.map (some mb)) (.int .i64 x) false).run Tryz.prog w = .ok (.bool false) w := by
              have h3 := HMp.out.run_look x HOK.out
              rw [HF.out x, if_neg h2] at h3
              exact h3
            have HY : Aside0 (rowAt n met l i = true) := ⟨rowAt_yes (okAt_iff.2 (by rw [← HQ.out, ← HX.out.1]; omega)) (by rw [← HX.out.1]; exact h2)⟩
            clear h2
            go_wp2
            exact ⟨⟨i + 1, by omega, by rw [prevI_succ, ← HX.out.1], by go_num, ⟨fun j hj => by
              by_cases e : j = i
              · rw [e]; exact HY.out
              · exact HN.out j (by omega)⟩, ⟨by first | rfl | trivial⟩⟩, by simp [intOf]; omega⟩
    · obtain rfl : i = m := by omega
      have HA : Aside0 (allAt l.length (rowAt n met l) = true) := ⟨allAt_all (fun j hj => HN.out j (by have := HM.out; omega))⟩
      have HNN := Aside0.mk HN.out
      have hshort : i ≤ 100000 := by
        have h1 := up_short (n := n) (l := l) i (fun j hj => rowAt_ok (HN.out j hj))
        by_cases e : i = 0
        · omega
        · have h2 := okAt_iff.1 (rowAt_ok (HN.out (i - 1) (by omega)))
          have h3 := prevI_succ l (i - 1)
          rw [show i - 1 + 1 = i by omega] at h3
          omega
      clear HN
      go_wp2
      go_loopw [35] (fun v35 wr => ∃ (k s2 : Nat) (f2 : Int → Option Bool), k ≤ i ∧ v35 = .int .i64 k ∧ Aside0 (MIs MIB wr mb s2 f2) ∧ Aside0 (SeenL (met ++ l.take k) f2) ∧ Aside0 (s2 ≤ s + k) ∧ Aside0 (w.grownBy wr (some mb))) (fun v35 _ => i - (intOf v35).toNat)
      case atStart => exact ⟨0, s, f, Nat.zero_le _, rfl, HMp, ⟨by rw [List.take_zero, List.append_nil]; exact HF.out⟩, ⟨Nat.le_refl _⟩, ⟨grown_refl _ _⟩⟩
      case round =>
        obtain ⟨k, s2, f2, hk, rfl, HM2, HF2, HS2, HG⟩ := hrel
        have HB2 := Aside0.mk (HB0.out.grown HG.out HB0.out.size (fun q e => by cases e; exact HMB.out))
        by_cases hki : k < i
        · have hki2 : (k : Int) < (i : Int) := by omega
          have hkc : k < l.length := by have := HM.out; omega
          obtain ⟨x, hx⟩ : ∃ x, x = l.getD k 0 := ⟨_, rfl⟩
          obtain ⟨ad, rfl, hcell⟩ := int_cell (Kd.C_below HC.out HB2.out) hkc hx
          have hok := okAt_iff.1 (rowAt_ok (HNN.out k hki))
          have hlow := (prevI_low (n := n) (i := k) (fun j hj => rowAt_ok (HNN.out j (by omega)))).1
          rw [← hx] at hok
          have HOK : Aside0 (MIB.ok x) := ⟨wf64 (by omega) (by omega)⟩
          have HX := Aside0.mk (And.intro hx hkc)
          clear hx hkc hok hlow
          go_wp2_with (first
            | (at_mapUpdate; refine wl_put HM2.out rfl _ _ _ rfl rfl (by have := HS2.out; unfold maxLen; omega) x HOK.out rfl true trivial rfl ?_; intro w5 hM5 hg5; have HM5 := Aside0.mk hM5; have HG5 := Aside0.mk hg5; clear hM5 hg5))
          exact ⟨⟨k + 1, _, _, by omega, by go_num, HM5, ⟨by rw [take1 l k HX.out.2, ← HX.out.1, ← List.append_assoc]; exact HF2.out.step x⟩, ⟨by have := HS2.out; split <;> omega⟩, ⟨grown_trans HG.out HG5.out⟩⟩, by simp [intOf]; omega⟩
        · obtain rfl : k = i := by omega
          have HE : Aside0 (∃ s' f', MIs MIB wr mb s' f' ∧ SeenL (met ++ l) f' ∧ s' ≤ s + 100000) := ⟨⟨s2, f2, HM2.out, by have h9 := HF2.out; rw [List.take_of_length_le (by have := HM.out; omega)] at h9; exact h9, Nat.le_trans HS2.out (by omega)⟩⟩
          have HRow : Aside0 (rowB n met l = (decide (0 < k) && decide (k ≤ 8))) := ⟨by unfold rowB; rw [HA.out, HM.out, Bool.true_and]⟩
          by_cases hq0 : 0 < k
          · have hqd0 : decide ((0 : Int) < k) = true := decide_eq_true (by omega)
            by_cases hq : k ≤ 8
            · have hqd : decide ((k : Int) ≤ 8) = true := decide_eq_true (by omega)
              have HR : Aside0 (rowB n met l = true) := ⟨by rw [HRow.out, decide_eq_true hq0, decide_eq_true hq]; rfl⟩
              go_wp2
              go_ret
              rw [HR.out]
              exact ⟨rfl, HG.out, fun _ => HE.out⟩
            · have hqd : decide ((k : Int) ≤ 8) = false := decide_eq_false (by omega)
              have HR : Aside0 (rowB n met l = false) := ⟨by rw [HRow.out, decide_eq_true hq0, decide_eq_false hq]; rfl⟩
              go_wp2
              go_ret
              rw [HR.out]
              exact ⟨rfl, HG.out, fun _ => HE.out⟩
          · have hqd0 : decide ((0 : Int) < k) = false := decide_eq_false (by omega)
            have HR : Aside0 (rowB n met l = false) := ⟨by rw [HRow.out, decide_eq_false hq0]; rfl⟩
            go_wp2
            go_ret
            rw [HR.out]
            exact ⟨rfl, HG.out, fun _ => HE.out⟩
end Go.Proofs.YtineikfhfmiidaaGreat.Pm
namespace Go.Proofs.YtineikfhfmiidaaGreat.Pm
open Go Go.RowKit Go.Proofs.YtineikfhfmiidaaGreat.Gp Go.Proofs.YtineikfhfmiidaaGreat.Mw Go.Proofs.YtineikfhfmiidaaGreatW.PrintWords Go.Proofs.YtineikfhfmiidaaGreatW.PrintLast Go.Proofs.YtineikfhfmiidaaGreatW.PrintMore
set_option linter.unusedVariables false
set_option linter.unusedSimpArgs false
/-- May the part at place i be? -/
def partAt (n : Int) (ps : List (List Int)) (i : Nat) : Bool := rowB n (ps.take i).flatten (ps.getD i [])
def wayB (n : Int) (ps : List (List Int)) : Bool := decide (0 < ps.length) && (decide (ps.length ≤ 4) && allAt ps.length (partAt n ps))
def wayAt (n : Int) (ws : List S63) (i : Nat) : Bool :=
  match ws[i]? with
  | none => false
  | some x => wayB n x.f0
/-- May a course be? -/
def courseB (n : Int) (x : S61) : Bool := nameB x.f0 && (decide (0 < x.f1.length) && (decide (x.f1.length ≤ 4) && allAt x.f1.length (wayAt n x.f1)))
theorem wayAt_eq {n : Int} {ws : List S63} {i : Nat} {x : S63} (h : ws[i]? = some x) : wayAt n ws i = wayB n x.f0 := by
  unfold wayAt
  rw [h]
theorem partAt_eq {n : Int} {ps : List (List Int)} {i : Nat} {l : List Int} (h : ps[i]? = some l) : partAt n ps i = rowB n (ps.take i).flatten l := by
  unfold partAt
  rw [List.getD_eq_getElem?_getD, h]
  rfl
theorem flat_succ {ps : List (List Int)} {i : Nat} {l : List Int} (h : ps[i]? = some l) : (ps.take (i + 1)).flatten = (ps.take i).flatten ++ l := by
  rw [takeS h, List.flatten_append]
  simp
theorem size_al (w : World) (o : Obj) : (w.alloc o).heap.size = w.heap.size + 1 := World.size_alloc ..
theorem elWay {w : World} {A : Option Addr} {n : Nat} {xs : List S63} (h : Kd.C k63 w A n xs) {i : Nat} {x : S63} (hx : xs[i]? = some x) :
    ∃ (ad : Addr) (B : Option Addr) (d : Nat), A = some ad ∧ w.cell? (ad.add i) = some (.slice B x.f0.length d) ∧ Kd.C (Kd.slice 3 (Kd.int .i64)) w B x.f0.length x.f0 := by
  obtain ⟨ad, cs, e, hK, hc⟩ := cl_get h hx
  obtain ⟨B, d, rfl, hl, hC⟩ := k63_open hK
  have h0 : w.cell? (ad.add (i * 1 + 0)) = _ := hc 0 _ rfl
  rw [Nat.mul_one, Nat.add_zero] at h0
  exact ⟨ad, B, d, e, h0, hC⟩
theorem elPart {w : World} {A : Option Addr} {n : Nat} {xs : List (List Int)} (h : Kd.C (Kd.slice 3 (Kd.int .i64)) w A n xs) {i : Nat} {l : List Int} (hx : xs[i]? = some l) :
    ∃ (ad : Addr) (B : Option Addr) (d : Nat), A = some ad ∧ w.cell? (ad.add i) = some (.slice B l.length d) ∧ (Kd.int .i64).C w B l.length l := by
  obtain ⟨ad, cs, e, hK, hc⟩ := cl_get h hx
  obtain ⟨B, d, rfl, hl, hC⟩ := hK
  have h0 : w.cell? (ad.add (i * 1 + 0)) = _ := hc 0 _ rfl
  rw [Nat.mul_one, Nat.add_zero] at h0
  exact ⟨ad, B, d, e, h0, hC⟩
set_option maxRecDepth 100000 in
set_option maxHeartbeats 4000000 in
theorem RightCourse_is (w : World) (n : Int) (x : S61) (B1 : Option Addr) (d1 : Nat) (hC1 : Kd.C k63 w B1 x.f1.length x.f1) (hn : n ≤ 100000) :
    Calls Tryz.prog 52 #[.int .i64 n, .agg #[.string x.f0, .slice B1 x.f1.length d1]] w fun e w' => e = .returned (.bool (courseB n x)) ∧ Below w.heap.size w w' := by
  have HC1 := Aside0.mk hC1
  have HN := Aside0.mk hn
  clear hC1 hn
  obtain ⟨m, hm⟩ : ∃ m, m = x.f1.length := ⟨_, rfl⟩
  have hut := Tryz.underlying61
  have huw := Tryz.underlying63
  have hmm := @run_makeMap Tryz.prog
  rw [← hm]
  have HM := Aside0.mk hm
  clear hm
  cases hb1 : nameB x.f0 with
  | false =>
    have E1 : Aside0 (Gq.room_Name.f x.f0 = some false) := ⟨(qname x.f0).trans (congrArg some hb1)⟩
    have HE1 := Aside0.mk hb1
    clear hb1
    go_enter Tryz.func52, Tryz.ntmps52
    go_wp2_with (first
      | ((with_reducible refine gate_dst (N := 3) rfl ?_); refine box_event ?hg (N := 3) ?hd (cs := #[.string x.f0, .slice B1 m d1]) (t := 61) ?hr ?_; (case hd => rfl); (case hg => rfl); (case hr => first | (go_simp; done) | (go_simp; rfl)); intro g3 hg3 w2 hbox hB; have HP := Aside0.mk (PBox.mk hbox hB (show w.heap.size ≤ g3 by rw [hg3]; exact Nat.le_refl _)); clear hbox hB hg3; have hd0 := HP.out.cell 0 rfl; have hd1 := HP.out.cell 1 rfl)
      | (go_at_call 34; refine (Gq.room_Name.calls x.f0 _ _ E1.out).mono ?_; rintro e w4 ⟨rfl, hD⟩; have HP2 := Aside0.mk (HP.out.below hD.below); clear HP hD hd0 hd1; have HP := HP2; clear HP2; have hd0 := HP.out.cell 0 rfl; have hd1 := HP.out.cell 1 rfl))
    go_ret
    rw [show courseB n x = false from by unfold courseB; rw [HE1.out, Bool.false_and]]
    exact ⟨rfl, HP.out.bel⟩
  | true =>
  have E1 : Aside0 (Gq.room_Name.f x.f0 = some true) := ⟨(qname x.f0).trans (congrArg some hb1)⟩
  have HE1 := Aside0.mk hb1
  clear hb1
  by_cases hm0 : m = 0
  · have hmz : ((m : Int) == 0) = true := by rw [beq_iff_eq]; omega
    have HM0 := Aside0.mk hm0
    clear hm0
    go_enter Tryz.func52, Tryz.ntmps52
    go_wp2_with (first
      | ((with_reducible refine gate_dst (N := 3) rfl ?_); refine box_event ?hg (N := 3) ?hd (cs := #[.string x.f0, .slice B1 m d1]) (t := 61) ?hr ?_; (case hd => rfl); (case hg => rfl); (case hr => first | (go_simp; done) | (go_simp; rfl)); intro g3 hg3 w2 hbox hB; have HP := Aside0.mk (PBox.mk hbox hB (show w.heap.size ≤ g3 by rw [hg3]; exact Nat.le_refl _)); clear hbox hB hg3; have hd0 := HP.out.cell 0 rfl; have hd1 := HP.out.cell 1 rfl)
      | (go_at_call 34; refine (Gq.room_Name.calls x.f0 _ _ E1.out).mono ?_; rintro e w4 ⟨rfl, hD⟩; have HP2 := Aside0.mk (HP.out.below hD.below); clear HP hD hd0 hd1; have HP := HP2; clear HP2; have hd0 := HP.out.cell 0 rfl; have hd1 := HP.out.cell 1 rfl))
    go_ret
    rw [show courseB n x = false from by unfold courseB; rw [HE1.out, ← HM.out, HM0.out]; rfl]
    exact ⟨rfl, HP.out.bel⟩
  have hmz : ((m : Int) == 0) = false := by rw [beq_eq_false_iff_ne]; omega
  by_cases hm4 : m ≤ 4
  rotate_left
  · have hmf : decide (4 < (m : Int)) = true := decide_eq_true (by omega)
    have HM4 := Aside0.mk hm4
    clear hm4
    go_enter Tryz.func52, Tryz.ntmps52
    go_wp2_with (first
      | ((with_reducible refine gate_dst (N := 3) rfl ?_); refine box_event ?hg (N := 3) ?hd (cs := #[.string x.f0, .slice B1 m d1]) (t := 61) ?hr ?_; (case hd => rfl); (case hg => rfl); (case hr => first | (go_simp; done) | (go_simp; rfl)); intro g3 hg3 w2 hbox hB; have HP := Aside0.mk (PBox.mk hbox hB (show w.heap.size ≤ g3 by rw [hg3]; exact Nat.le_refl _)); clear hbox hB hg3; have hd0 := HP.out.cell 0 rfl; have hd1 := HP.out.cell 1 rfl)
      | (go_at_call 34; refine (Gq.room_Name.calls x.f0 _ _ E1.out).mono ?_; rintro e w4 ⟨rfl, hD⟩; have HP2 := Aside0.mk (HP.out.below hD.below); clear HP hD hd0 hd1; have HP := HP2; clear HP2; have hd0 := HP.out.cell 0 rfl; have hd1 := HP.out.cell 1 rfl))
    go_ret
    rw [show courseB n x = false from by unfold courseB; rw [← HM.out, decide_eq_false (show ¬ m ≤ 4 by have := HM4.out; omega)]; simp]
    exact ⟨rfl, HP.out.bel⟩
  have hmf : decide (4 < (m : Int)) = false := decide_eq_false (by omega)
  go_enter Tryz.func52, Tryz.ntmps52
  go_wp2_with (first
    | ((with_reducible refine gate_dst (N := 3) rfl ?_); refine box_event ?hg (N := 3) ?hd (cs := #[.string x.f0, .slice B1 m d1]) (t := 61) ?hr ?_; (case hd => rfl); (case hg => rfl); (case hr => first | (go_simp; done) | (go_simp; rfl)); intro g3 hg3 w2 hbox hB; have HP := Aside0.mk (PBox.mk hbox hB (show w.heap.size ≤ g3 by rw [hg3]; exact Nat.le_refl _)); clear hbox hB hg3; have hd0 := HP.out.cell 0 rfl; have hd1 := HP.out.cell 1 rfl)
    | (go_at_call 34; refine (Gq.room_Name.calls x.f0 _ _ E1.out).mono ?_; rintro e w4 ⟨rfl, hD⟩; have HP2 := Aside0.mk (HP.out.below hD.below); clear HP hD hd0 hd1; have HP := HP2; clear HP2; have hd0 := HP.out.cell 0 rfl; have hd1 := HP.out.cell 1 rfl))
  go_loopw [29] (fun v29 wr => ∃ i : Nat, i ≤ m ∧ v29 = .int .i64 i ∧ Aside0 (∀ j, j < i → wayAt n x.f1 j = true) ∧ Aside0 (Below w.heap.size w wr)) (fun v29 _ => m - (intOf v29).toNat)
  case atStart => exact ⟨0, Nat.zero_le _, rfl, ⟨fun j hj => by omega⟩, ⟨HP.out.bel⟩⟩
  case round =>
    clear HP hd0 hd1
    obtain ⟨i, hi, rfl, HW, HB⟩ := hrel
    by_cases him : i < m
    · have him2 : (i : Int) < (m : Int) := by omega
      obtain ⟨y, hy⟩ : ∃ y, x.f1[i]? = some y := ⟨_, List.getElem?_eq_getElem (by have := HM.out; omega)⟩
      obtain ⟨ad, B, d, rfl, hk, hCp⟩ := elWay HC1.out hy
      have hk0 := pw_cell_below HB.out hk
      have HY := Aside0.mk hy
      have HCp := Aside0.mk hCp
      have hmxp := Kd.C_max hCp
      obtain ⟨q, hq⟩ : ∃ q, q = y.f0.length := ⟨_, rfl⟩
      rw [← hq] at hk0 hmxp
      have HQ := Aside0.mk hq
      clear hy hCp hk hq
      have HBad : Aside0 (wayB n y.f0 = false → courseB n x = false) := ⟨fun h => by
        unfold courseB
        rw [allAt_bad (i := i) (by have := HM.out; omega) ((wayAt_eq HY.out).trans h)]
        simp⟩
      by_cases hq0 : q = 0
      · have hqz : ((q : Int) == 0) = true := by rw [beq_iff_eq]; omega
        have HR := Aside0.mk (HBad.out (by unfold wayB; rw [← HQ.out, hq0]; rfl))
        clear hmm hq0
        go_wp2
        go_ret
        rw [HR.out]
        exact ⟨rfl, below_alloc HB.out _⟩
      have hqz : ((q : Int) == 0) = false := by rw [beq_eq_false_iff_ne]; omega
      by_cases hq4 : q ≤ 4
      rotate_left
      · have hqf : decide (4 < (q : Int)) = true := decide_eq_true (by omega)
        have HR := Aside0.mk (HBad.out (by unfold wayB; rw [← HQ.out, decide_eq_false hq4]; simp))
        clear hmm hq4
        go_wp2
        go_ret
        rw [HR.out]
        exact ⟨rfl, below_alloc HB.out _⟩
      have hqf : decide (4 < (q : Int)) = false := decide_eq_false (by omega)
      have HQ4 := Aside0.mk (And.intro hq0 hq4)
      clear hq0 hq4
      go_wp2
      have HBm : Aside0 (Below w.heap.size w ((wr.alloc (.cells #[.slice B q d] 63)).alloc (.map #[] 0))) := ⟨below_alloc (below_alloc HB.out _) _⟩
      have hsz : (wr.alloc (.cells #[.slice B q d] 63)).heap.size = wr.heap.size + 1 := size_al _ _
      have HMm : Aside0 (MIs MIB ((wr.alloc (.cells #[.slice B q d] 63)).alloc (.map #[] 0)) (wr.heap.size + 1) 0 (fun _ => none)) := ⟨by rw [← hsz]; exact MIs.made MIB _⟩
      have HGe : Aside0 (w.heap.size ≤ wr.heap.size + 1) := ⟨by rw [← hsz]; exact (below_alloc HB.out _).size⟩
      clear hmm hsz
      obtain ⟨mb, hmb⟩ : ∃ mb, mb = wr.heap.size + 1 := ⟨_, rfl⟩
      rw [← hmb]
      rw [← hmb] at HMm HGe
      clear hmb
      go_loopw [47] (fun v47 wr => ∃ (k s : Nat) (f : Int → Option Bool), k ≤ q ∧ v47 = .int .i64 k ∧ Aside0 (∀ j, j < k → partAt n y.f0 j = true) ∧ Aside0 (SeenL (y.f0.take k).flatten f) ∧ Aside0 (s ≤ k * 100000) ∧ Aside0 (MIs MIB wr mb s f) ∧ Aside0 (Below w.heap.size w wr)) (fun v47 _ => q - (intOf v47).toNat)
      case atStart => exact ⟨0, 0, _, Nat.zero_le _, rfl, ⟨fun j hj => by omega⟩, ⟨fun k => by simp⟩, ⟨Nat.zero_le _⟩, HMm, HBm⟩
      case round =>
        clear HBm HMm HB hk0
        obtain ⟨k, s, f, hk, rfl, HP, HS, HSz, HMp, HB⟩ := hrel
        by_cases hkq : k < q
        · have hkq2 : (k : Int) < (q : Int) := by omega
          obtain ⟨l, hl⟩ : ∃ l, y.f0[k]? = some l := ⟨_, List.getElem?_eq_getElem (by have := HQ.out; omega)⟩
          obtain ⟨ad2, B2, d2, rfl, hk2, hC2⟩ := elPart HCp.out hl
          have hk3 := pw_cell_below HB.out hk2
          have HL := Aside0.mk hl
          have HC2 := Aside0.mk hC2
          clear hl hk2 hC2
          cases hrow : rowB n (y.f0.take k).flatten l with
          | false =>
            have HR := Aside0.mk (HBad.out (by
              unfold wayB
              rw [allAt_bad (i := k) (by have := HQ.out; omega) ((partAt_eq HL.out).trans hrow)]
              simp))
            have HRow := Aside0.mk hrow
            clear hrow
            go_wp2_with (first
              | (go_at_call 129; refine (row_is w wr B2 l.length d2 l _ n mb s f rfl HC2.out HB.out HGe.out HN.out (by have := HSz.out; have := HQ4.out; omega) HMp.out HS.out).mono ?_; rintro e w4 ⟨rfl, hG, hT⟩; rw [HRow.out]; have HB4 := Aside0.mk (HB.out.grown hG HB.out.size (fun q e => by cases e; exact HGe.out)); clear hG hT))
            go_ret
            rw [HR.out]
            exact ⟨rfl, HB4.out⟩
          | true =>
            have HRow := Aside0.mk hrow
            clear hrow
            go_wp2_with (first
              | (go_at_call 129; refine (row_is w wr B2 l.length d2 l _ n mb s f rfl HC2.out HB.out HGe.out HN.out (by have := HSz.out; have := HQ4.out; omega) HMp.out HS.out).mono ?_; rintro e w4 ⟨rfl, hG, hT⟩; rw [HRow.out]; have HB4 := Aside0.mk (HB.out.grown hG HB.out.size (fun q e => by cases e; exact HGe.out)); have HT := Aside0.mk (hT HRow.out); clear hG hT))
            obtain ⟨s2, f2, hM2, hF2, hs2⟩ := HT.out
            exact ⟨⟨k + 1, s2, f2, by omega, by go_num, ⟨fun j hj => by
              by_cases e : j = k
              · rw [e, partAt_eq HL.out]; exact HRow.out
              · exact HP.out j (by omega)⟩, ⟨by rw [flat_succ HL.out]; exact hF2⟩, ⟨by have := HSz.out; omega⟩, ⟨hM2⟩, HB4⟩, by simp [intOf]; omega⟩
        · obtain rfl : k = q := by omega
          have HWay : Aside0 (wayAt n x.f1 i = true) := ⟨by
            rw [wayAt_eq HY.out]
            unfold wayB
            rw [← HQ.out, decide_eq_true (show 0 < k by have := HQ4.out; omega), decide_eq_true (show k ≤ 4 by have := HQ4.out; omega), allAt_all (fun j hj => HP.out j hj)]
            rfl⟩
          go_wp2
          exact ⟨⟨i + 1, by omega, by go_num, ⟨fun j hj => by
            by_cases e : j = i
            · rw [e]; exact HWay.out
            · exact HW.out j (by omega)⟩, HB⟩, by simp [intOf]; omega⟩
    · obtain rfl : i = m := by omega
      have HR : Aside0 (courseB n x = true) := ⟨by
        unfold courseB
        rw [HE1.out, ← HM.out, decide_eq_true (show 0 < i by omega), decide_eq_true hm4, allAt_all (fun j hj => HW.out j hj)]
        rfl⟩
      clear hmm
      go_wp2
      go_ret
      rw [HR.out]
      exact ⟨rfl, HB.out⟩
end Go.Proofs.YtineikfhfmiidaaGreat.Pm
namespace Go.Proofs.YtineikfhfmiidaaGreat.Pm
open Go Go.RowKit Go.Proofs.YtineikfhfmiidaaGreat.Gp Go.Proofs.YtineikfhfmiidaaGreat.Mw Go.Proofs.YtineikfhfmiidaaGreatW.PrintWords Go.Proofs.YtineikfhfmiidaaGreatW.PrintLast Go.Proofs.YtineikfhfmiidaaGreatW.PrintMore
set_option linter.unusedVariables false
set_option linter.unusedSimpArgs false
set_option maxRecDepth 100000 in
set_option maxHeartbeats 2000000 in
theorem Rule_is (w : World) (n k : Int) (A : Option Addr) (m c : Nat) (cs : List Int) (a b : Int) (hard : Bool) (cost : Int) (hm : cs.length = m) (hC : (Kd.int .i64).C w A cs.length cs) (hc : m ≤ c) (hn : n ≤ 9223372036854775807) :
    Calls Tryz.prog 33 #[.int .i64 n, .agg #[.int .i64 k, .slice A m c, .int .i64 a, .int .i64 b, .bool hard, .int .i64 cost]] w fun e w' => e = .returned (.bool (ruleOk n k cs a b hard cost)) ∧ Below w.heap.size w w' := by
  have HC := Aside0.mk hC
  have HM := Aside0.mk hm
  clear hC hm
  cases hkp : kp k with
  | true =>
    have HKp := Aside0.mk hkp
    clear hkp
    cases hnu : numsOk k a b with
    | false =>
      have HNu := Aside0.mk hnu
      clear hnu
      go_enter Tryz.func33, Tryz.ntmps33
      go_wp2_with (first
        | ((with_reducible refine gate_dst (N := 3) rfl ?_); refine box_event ?hg (N := 3) ?hd (cs := #[.int .i64 k, .slice A m c, .int .i64 a, .int .i64 b, .bool hard, .int .i64 cost]) (t := 69) ?hr ?_; (case hd => rfl); (case hg => rfl); (case hr => first | (go_simp; done) | (go_simp; rfl)); intro g hg w2 hbox hB; have HP := Aside0.mk (PBox.mk hbox hB (show w.heap.size ≤ g by rw [hg]; exact Nat.le_refl _)); clear hbox hB hg; have hc0 := HP.out.cell 0 rfl; have hc1 := HP.out.cell 1 rfl; have hc2 := HP.out.cell 2 rfl; have hc3 := HP.out.cell 3 rfl; have hc4 := HP.out.cell 4 rfl; have hc5 := HP.out.cell 5 rfl)
        | (go_at_call 117; refine (pair_Known.calls k _ _ (kp_pair k)).mono ?_; rintro e w3 ⟨rfl, hD⟩; rw [HKp.out]; have hB := hD.below; clear hD; have HQ := Aside0.mk (HP.out.below hB); clear HP hB hc0 hc1 hc2 hc3 hc4 hc5; have HP := HQ; clear HQ; have hc0 := HP.out.cell 0 rfl; have hc1 := HP.out.cell 1 rfl; have hc2 := HP.out.cell 2 rfl; have hc3 := HP.out.cell 3 rfl; have hc4 := HP.out.cell 4 rfl; have hc5 := HP.out.cell 5 rfl)
        | (go_at_call 118; refine (many_Known.calls k _ _ (km_many k)).mono ?_; rintro e w3 ⟨rfl, hD⟩; rw [HKm.out]; have hB := hD.below; clear hD; have HQ := Aside0.mk (HP.out.below hB); clear HP hB hc0 hc1 hc2 hc3 hc4 hc5; have HP := HQ; clear HQ; have hc0 := HP.out.cell 0 rfl; have hc1 := HP.out.cell 1 rfl; have hc2 := HP.out.cell 2 rfl; have hc3 := HP.out.cell 3 rfl; have hc4 := HP.out.cell 4 rfl; have hc5 := HP.out.cell 5 rfl)
        | (go_at_call 119; refine (many_Right.calls 5 k a b _ _ (nums_many k a b)).mono ?_; rintro e w3 ⟨rfl, hD⟩; rw [HNu.out]; have hB := hD.below; clear hD; have HQ := Aside0.mk (HP.out.below hB); clear HP hB hc0 hc1 hc2 hc3 hc4 hc5; have HP := HQ; clear HQ; have hc0 := HP.out.cell 0 rfl; have hc1 := HP.out.cell 1 rfl; have hc2 := HP.out.cell 2 rfl; have hc3 := HP.out.cell 3 rfl; have hc4 := HP.out.cell 4 rfl; have hc5 := HP.out.cell 5 rfl))
      go_ret
      rw [show ruleOk n k cs a b hard cost = false from by unfold ruleOk; simp [HM.out, HKp.out, HNu.out]]
      exact ⟨rfl, HP.out.bel⟩
    | true =>
      have HNu := Aside0.mk hnu
      clear hnu
      by_cases hl : m < 2
      · have hl1 : (m : Int) < 2 := by omega
        go_enter Tryz.func33, Tryz.ntmps33
        go_wp2_with (first
          | ((with_reducible refine gate_dst (N := 3) rfl ?_); refine box_event ?hg (N := 3) ?hd (cs := #[.int .i64 k, .slice A m c, .int .i64 a, .int .i64 b, .bool hard, .int .i64 cost]) (t := 69) ?hr ?_; (case hd => rfl); (case hg => rfl); (case hr => first | (go_simp; done) | (go_simp; rfl)); intro g hg w2 hbox hB; have HP := Aside0.mk (PBox.mk hbox hB (show w.heap.size ≤ g by rw [hg]; exact Nat.le_refl _)); clear hbox hB hg; have hc0 := HP.out.cell 0 rfl; have hc1 := HP.out.cell 1 rfl; have hc2 := HP.out.cell 2 rfl; have hc3 := HP.out.cell 3 rfl; have hc4 := HP.out.cell 4 rfl; have hc5 := HP.out.cell 5 rfl)
          | (go_at_call 117; refine (pair_Known.calls k _ _ (kp_pair k)).mono ?_; rintro e w3 ⟨rfl, hD⟩; rw [HKp.out]; have hB := hD.below; clear hD; have HQ := Aside0.mk (HP.out.below hB); clear HP hB hc0 hc1 hc2 hc3 hc4 hc5; have HP := HQ; clear HQ; have hc0 := HP.out.cell 0 rfl; have hc1 := HP.out.cell 1 rfl; have hc2 := HP.out.cell 2 rfl; have hc3 := HP.out.cell 3 rfl; have hc4 := HP.out.cell 4 rfl; have hc5 := HP.out.cell 5 rfl)
          | (go_at_call 118; refine (many_Known.calls k _ _ (km_many k)).mono ?_; rintro e w3 ⟨rfl, hD⟩; rw [HKm.out]; have hB := hD.below; clear hD; have HQ := Aside0.mk (HP.out.below hB); clear HP hB hc0 hc1 hc2 hc3 hc4 hc5; have HP := HQ; clear HQ; have hc0 := HP.out.cell 0 rfl; have hc1 := HP.out.cell 1 rfl; have hc2 := HP.out.cell 2 rfl; have hc3 := HP.out.cell 3 rfl; have hc4 := HP.out.cell 4 rfl; have hc5 := HP.out.cell 5 rfl)
          | (go_at_call 119; refine (many_Right.calls 5 k a b _ _ (nums_many k a b)).mono ?_; rintro e w3 ⟨rfl, hD⟩; rw [HNu.out]; have hB := hD.below; clear hD; have HQ := Aside0.mk (HP.out.below hB); clear HP hB hc0 hc1 hc2 hc3 hc4 hc5; have HP := HQ; clear HQ; have hc0 := HP.out.cell 0 rfl; have hc1 := HP.out.cell 1 rfl; have hc2 := HP.out.cell 2 rfl; have hc3 := HP.out.cell 3 rfl; have hc4 := HP.out.cell 4 rfl; have hc5 := HP.out.cell 5 rfl))
        go_ret
        rw [show ruleOk n k cs a b hard cost = false from by unfold ruleOk; simp [HM.out, HKp.out, HNu.out, show ¬ 2 ≤ m by omega]]
        exact ⟨rfl, HP.out.bel⟩
      · have hl1 : ¬ (m : Int) < 2 := by omega
        by_cases hg : 12 < m
        · have hg1 : (12 : Int) < (m : Int) := by omega
          go_enter Tryz.func33, Tryz.ntmps33
          go_wp2_with (first
            | ((with_reducible refine gate_dst (N := 3) rfl ?_); refine box_event ?hg (N := 3) ?hd (cs := #[.int .i64 k, .slice A m c, .int .i64 a, .int .i64 b, .bool hard, .int .i64 cost]) (t := 69) ?hr ?_; (case hd => rfl); (case hg => rfl); (case hr => first | (go_simp; done) | (go_simp; rfl)); intro g hg w2 hbox hB; have HP := Aside0.mk (PBox.mk hbox hB (show w.heap.size ≤ g by rw [hg]; exact Nat.le_refl _)); clear hbox hB hg; have hc0 := HP.out.cell 0 rfl; have hc1 := HP.out.cell 1 rfl; have hc2 := HP.out.cell 2 rfl; have hc3 := HP.out.cell 3 rfl; have hc4 := HP.out.cell 4 rfl; have hc5 := HP.out.cell 5 rfl)
            | (go_at_call 117; refine (pair_Known.calls k _ _ (kp_pair k)).mono ?_; rintro e w3 ⟨rfl, hD⟩; rw [HKp.out]; have hB := hD.below; clear hD; have HQ := Aside0.mk (HP.out.below hB); clear HP hB hc0 hc1 hc2 hc3 hc4 hc5; have HP := HQ; clear HQ; have hc0 := HP.out.cell 0 rfl; have hc1 := HP.out.cell 1 rfl; have hc2 := HP.out.cell 2 rfl; have hc3 := HP.out.cell 3 rfl; have hc4 := HP.out.cell 4 rfl; have hc5 := HP.out.cell 5 rfl)
            | (go_at_call 118; refine (many_Known.calls k _ _ (km_many k)).mono ?_; rintro e w3 ⟨rfl, hD⟩; rw [HKm.out]; have hB := hD.below; clear hD; have HQ := Aside0.mk (HP.out.below hB); clear HP hB hc0 hc1 hc2 hc3 hc4 hc5; have HP := HQ; clear HQ; have hc0 := HP.out.cell 0 rfl; have hc1 := HP.out.cell 1 rfl; have hc2 := HP.out.cell 2 rfl; have hc3 := HP.out.cell 3 rfl; have hc4 := HP.out.cell 4 rfl; have hc5 := HP.out.cell 5 rfl)
            | (go_at_call 119; refine (many_Right.calls 5 k a b _ _ (nums_many k a b)).mono ?_; rintro e w3 ⟨rfl, hD⟩; rw [HNu.out]; have hB := hD.below; clear hD; have HQ := Aside0.mk (HP.out.below hB); clear HP hB hc0 hc1 hc2 hc3 hc4 hc5; have HP := HQ; clear HQ; have hc0 := HP.out.cell 0 rfl; have hc1 := HP.out.cell 1 rfl; have hc2 := HP.out.cell 2 rfl; have hc3 := HP.out.cell 3 rfl; have hc4 := HP.out.cell 4 rfl; have hc5 := HP.out.cell 5 rfl))
          go_ret
          rw [show ruleOk n k cs a b hard cost = false from by unfold ruleOk; simp [HM.out, HKp.out, HNu.out, show ¬ m ≤ 12 by omega]]
          exact ⟨rfl, HP.out.bel⟩
        · have hg1 : ¬ (12 : Int) < (m : Int) := by omega
          cases hds : dstB n cs with
          | false =>
            have HDs := Aside0.mk hds
            clear hds
            go_enter Tryz.func33, Tryz.ntmps33
            go_wp2_with (first
              | ((with_reducible refine gate_dst (N := 3) rfl ?_); refine box_event ?hg (N := 3) ?hd (cs := #[.int .i64 k, .slice A m c, .int .i64 a, .int .i64 b, .bool hard, .int .i64 cost]) (t := 69) ?hr ?_; (case hd => rfl); (case hg => rfl); (case hr => first | (go_simp; done) | (go_simp; rfl)); intro g hg w2 hbox hB; have HP := Aside0.mk (PBox.mk hbox hB (show w.heap.size ≤ g by rw [hg]; exact Nat.le_refl _)); clear hbox hB hg; have hc0 := HP.out.cell 0 rfl; have hc1 := HP.out.cell 1 rfl; have hc2 := HP.out.cell 2 rfl; have hc3 := HP.out.cell 3 rfl; have hc4 := HP.out.cell 4 rfl; have hc5 := HP.out.cell 5 rfl)
              | (go_at_call 117; refine (pair_Known.calls k _ _ (kp_pair k)).mono ?_; rintro e w3 ⟨rfl, hD⟩; rw [HKp.out]; have hB := hD.below; clear hD; have HQ := Aside0.mk (HP.out.below hB); clear HP hB hc0 hc1 hc2 hc3 hc4 hc5; have HP := HQ; clear HQ; have hc0 := HP.out.cell 0 rfl; have hc1 := HP.out.cell 1 rfl; have hc2 := HP.out.cell 2 rfl; have hc3 := HP.out.cell 3 rfl; have hc4 := HP.out.cell 4 rfl; have hc5 := HP.out.cell 5 rfl)
              | (go_at_call 118; refine (many_Known.calls k _ _ (km_many k)).mono ?_; rintro e w3 ⟨rfl, hD⟩; rw [HKm.out]; have hB := hD.below; clear hD; have HQ := Aside0.mk (HP.out.below hB); clear HP hB hc0 hc1 hc2 hc3 hc4 hc5; have HP := HQ; clear HQ; have hc0 := HP.out.cell 0 rfl; have hc1 := HP.out.cell 1 rfl; have hc2 := HP.out.cell 2 rfl; have hc3 := HP.out.cell 3 rfl; have hc4 := HP.out.cell 4 rfl; have hc5 := HP.out.cell 5 rfl)
              | (go_at_call 119; refine (many_Right.calls 5 k a b _ _ (nums_many k a b)).mono ?_; rintro e w3 ⟨rfl, hD⟩; rw [HNu.out]; have hB := hD.below; clear hD; have HQ := Aside0.mk (HP.out.below hB); clear HP hB hc0 hc1 hc2 hc3 hc4 hc5; have HP := HQ; clear HQ; have hc0 := HP.out.cell 0 rfl; have hc1 := HP.out.cell 1 rfl; have hc2 := HP.out.cell 2 rfl; have hc3 := HP.out.cell 3 rfl; have hc4 := HP.out.cell 4 rfl; have hc5 := HP.out.cell 5 rfl)
              | (go_at_call 120; refine (distinct_is _ A m c cs n HM.out (Kd.C_below HC.out HP.out.bel) hc (by omega) hn).mono ?_; rintro e w3 ⟨rfl, hB⟩; rw [HDs.out]; have HQ := Aside0.mk (HP.out.below hB); clear HP hB hc0 hc1 hc2 hc3 hc4 hc5; have HP := HQ; clear HQ; have hc0 := HP.out.cell 0 rfl; have hc1 := HP.out.cell 1 rfl; have hc2 := HP.out.cell 2 rfl; have hc3 := HP.out.cell 3 rfl; have hc4 := HP.out.cell 4 rfl; have hc5 := HP.out.cell 5 rfl))
            go_ret
            rw [show ruleOk n k cs a b hard cost = false from by unfold ruleOk; simp [HM.out, HKp.out, HNu.out, HDs.out]]
            exact ⟨rfl, HP.out.bel⟩
          | true =>
            have HDs := Aside0.mk hds
            clear hds
            cases hard with
            | true =>
              by_cases hz : cost = 0
              · have hz1 : (cost == 0) = true := by simpa using hz
                have HZ := Aside0.mk hz
                clear hz
                go_enter Tryz.func33, Tryz.ntmps33
                go_wp2_with (first
                  | ((with_reducible refine gate_dst (N := 3) rfl ?_); refine box_event ?hg (N := 3) ?hd (cs := #[.int .i64 k, .slice A m c, .int .i64 a, .int .i64 b, .bool true, .int .i64 cost]) (t := 69) ?hr ?_; (case hd => rfl); (case hg => rfl); (case hr => first | (go_simp; done) | (go_simp; rfl)); intro g hg w2 hbox hB; have HP := Aside0.mk (PBox.mk hbox hB (show w.heap.size ≤ g by rw [hg]; exact Nat.le_refl _)); clear hbox hB hg; have hc0 := HP.out.cell 0 rfl; have hc1 := HP.out.cell 1 rfl; have hc2 := HP.out.cell 2 rfl; have hc3 := HP.out.cell 3 rfl; have hc4 := HP.out.cell 4 rfl; have hc5 := HP.out.cell 5 rfl)
                  | (go_at_call 117; refine (pair_Known.calls k _ _ (kp_pair k)).mono ?_; rintro e w3 ⟨rfl, hD⟩; rw [HKp.out]; have hB := hD.below; clear hD; have HQ := Aside0.mk (HP.out.below hB); clear HP hB hc0 hc1 hc2 hc3 hc4 hc5; have HP := HQ; clear HQ; have hc0 := HP.out.cell 0 rfl; have hc1 := HP.out.cell 1 rfl; have hc2 := HP.out.cell 2 rfl; have hc3 := HP.out.cell 3 rfl; have hc4 := HP.out.cell 4 rfl; have hc5 := HP.out.cell 5 rfl)
                  | (go_at_call 118; refine (many_Known.calls k _ _ (km_many k)).mono ?_; rintro e w3 ⟨rfl, hD⟩; rw [HKm.out]; have hB := hD.below; clear hD; have HQ := Aside0.mk (HP.out.below hB); clear HP hB hc0 hc1 hc2 hc3 hc4 hc5; have HP := HQ; clear HQ; have hc0 := HP.out.cell 0 rfl; have hc1 := HP.out.cell 1 rfl; have hc2 := HP.out.cell 2 rfl; have hc3 := HP.out.cell 3 rfl; have hc4 := HP.out.cell 4 rfl; have hc5 := HP.out.cell 5 rfl)
                  | (go_at_call 119; refine (many_Right.calls 5 k a b _ _ (nums_many k a b)).mono ?_; rintro e w3 ⟨rfl, hD⟩; rw [HNu.out]; have hB := hD.below; clear hD; have HQ := Aside0.mk (HP.out.below hB); clear HP hB hc0 hc1 hc2 hc3 hc4 hc5; have HP := HQ; clear HQ; have hc0 := HP.out.cell 0 rfl; have hc1 := HP.out.cell 1 rfl; have hc2 := HP.out.cell 2 rfl; have hc3 := HP.out.cell 3 rfl; have hc4 := HP.out.cell 4 rfl; have hc5 := HP.out.cell 5 rfl)
                  | (go_at_call 120; refine (distinct_is _ A m c cs n HM.out (Kd.C_below HC.out HP.out.bel) hc (by omega) hn).mono ?_; rintro e w3 ⟨rfl, hB⟩; rw [HDs.out]; have HQ := Aside0.mk (HP.out.below hB); clear HP hB hc0 hc1 hc2 hc3 hc4 hc5; have HP := HQ; clear HQ; have hc0 := HP.out.cell 0 rfl; have hc1 := HP.out.cell 1 rfl; have hc2 := HP.out.cell 2 rfl; have hc3 := HP.out.cell 3 rfl; have hc4 := HP.out.cell 4 rfl; have hc5 := HP.out.cell 5 rfl))
                go_ret
                rw [show ruleOk n k cs a b true cost = true from by unfold ruleOk; simp [HM.out, HKp.out, HNu.out, HDs.out, show 2 ≤ m by omega, show m ≤ 12 by omega, HZ.out]]
                exact ⟨rfl, HP.out.bel⟩
              · have hz1 : (cost == 0) = false := by simpa using hz
                have hz2 : decide (cost = 0) = false := decide_eq_false hz
                have HZ := Aside0.mk hz
                clear hz
                go_enter Tryz.func33, Tryz.ntmps33
                go_wp2_with (first
                  | ((with_reducible refine gate_dst (N := 3) rfl ?_); refine box_event ?hg (N := 3) ?hd (cs := #[.int .i64 k, .slice A m c, .int .i64 a, .int .i64 b, .bool true, .int .i64 cost]) (t := 69) ?hr ?_; (case hd => rfl); (case hg => rfl); (case hr => first | (go_simp; done) | (go_simp; rfl)); intro g hg w2 hbox hB; have HP := Aside0.mk (PBox.mk hbox hB (show w.heap.size ≤ g by rw [hg]; exact Nat.le_refl _)); clear hbox hB hg; have hc0 := HP.out.cell 0 rfl; have hc1 := HP.out.cell 1 rfl; have hc2 := HP.out.cell 2 rfl; have hc3 := HP.out.cell 3 rfl; have hc4 := HP.out.cell 4 rfl; have hc5 := HP.out.cell 5 rfl)
                  | (go_at_call 117; refine (pair_Known.calls k _ _ (kp_pair k)).mono ?_; rintro e w3 ⟨rfl, hD⟩; rw [HKp.out]; have hB := hD.below; clear hD; have HQ := Aside0.mk (HP.out.below hB); clear HP hB hc0 hc1 hc2 hc3 hc4 hc5; have HP := HQ; clear HQ; have hc0 := HP.out.cell 0 rfl; have hc1 := HP.out.cell 1 rfl; have hc2 := HP.out.cell 2 rfl; have hc3 := HP.out.cell 3 rfl; have hc4 := HP.out.cell 4 rfl; have hc5 := HP.out.cell 5 rfl)
                  | (go_at_call 118; refine (many_Known.calls k _ _ (km_many k)).mono ?_; rintro e w3 ⟨rfl, hD⟩; rw [HKm.out]; have hB := hD.below; clear hD; have HQ := Aside0.mk (HP.out.below hB); clear HP hB hc0 hc1 hc2 hc3 hc4 hc5; have HP := HQ; clear HQ; have hc0 := HP.out.cell 0 rfl; have hc1 := HP.out.cell 1 rfl; have hc2 := HP.out.cell 2 rfl; have hc3 := HP.out.cell 3 rfl; have hc4 := HP.out.cell 4 rfl; have hc5 := HP.out.cell 5 rfl)
                  | (go_at_call 119; refine (many_Right.calls 5 k a b _ _ (nums_many k a b)).mono ?_; rintro e w3 ⟨rfl, hD⟩; rw [HNu.out]; have hB := hD.below; clear hD; have HQ := Aside0.mk (HP.out.below hB); clear HP hB hc0 hc1 hc2 hc3 hc4 hc5; have HP := HQ; clear HQ; have hc0 := HP.out.cell 0 rfl; have hc1 := HP.out.cell 1 rfl; have hc2 := HP.out.cell 2 rfl; have hc3 := HP.out.cell 3 rfl; have hc4 := HP.out.cell 4 rfl; have hc5 := HP.out.cell 5 rfl)
                  | (go_at_call 120; refine (distinct_is _ A m c cs n HM.out (Kd.C_below HC.out HP.out.bel) hc (by omega) hn).mono ?_; rintro e w3 ⟨rfl, hB⟩; rw [HDs.out]; have HQ := Aside0.mk (HP.out.below hB); clear HP hB hc0 hc1 hc2 hc3 hc4 hc5; have HP := HQ; clear HQ; have hc0 := HP.out.cell 0 rfl; have hc1 := HP.out.cell 1 rfl; have hc2 := HP.out.cell 2 rfl; have hc3 := HP.out.cell 3 rfl; have hc4 := HP.out.cell 4 rfl; have hc5 := HP.out.cell 5 rfl))
                go_ret
                rw [show ruleOk n k cs a b true cost = false from by unfold ruleOk; simp [HM.out, HKp.out, HNu.out, HDs.out, show 2 ≤ m by omega, show m ≤ 12 by omega, HZ.out]]
                exact ⟨rfl, HP.out.bel⟩
            | false =>
              by_cases h1 : 1 ≤ cost
              · by_cases h2 : cost ≤ 1000
                · have HCo := Aside0.mk (show (decide (0 ≤ cost) && decide (cost ≤ 1000)) = true by rw [Bool.and_eq_true]; exact ⟨decide_eq_true (by omega), decide_eq_true h2⟩)
                  have H1 := Aside0.mk h1
                  have H2 := Aside0.mk h2
                  go_enter Tryz.func33, Tryz.ntmps33
                  go_wp2_with (first
                    | ((with_reducible refine gate_dst (N := 3) rfl ?_); refine box_event ?hg (N := 3) ?hd (cs := #[.int .i64 k, .slice A m c, .int .i64 a, .int .i64 b, .bool false, .int .i64 cost]) (t := 69) ?hr ?_; (case hd => rfl); (case hg => rfl); (case hr => first | (go_simp; done) | (go_simp; rfl)); intro g hg w2 hbox hB; have HP := Aside0.mk (PBox.mk hbox hB (show w.heap.size ≤ g by rw [hg]; exact Nat.le_refl _)); clear hbox hB hg; have hc0 := HP.out.cell 0 rfl; have hc1 := HP.out.cell 1 rfl; have hc2 := HP.out.cell 2 rfl; have hc3 := HP.out.cell 3 rfl; have hc4 := HP.out.cell 4 rfl; have hc5 := HP.out.cell 5 rfl)
                    | (go_at_call 117; refine (pair_Known.calls k _ _ (kp_pair k)).mono ?_; rintro e w3 ⟨rfl, hD⟩; rw [HKp.out]; have hB := hD.below; clear hD; have HQ := Aside0.mk (HP.out.below hB); clear HP hB hc0 hc1 hc2 hc3 hc4 hc5; have HP := HQ; clear HQ; have hc0 := HP.out.cell 0 rfl; have hc1 := HP.out.cell 1 rfl; have hc2 := HP.out.cell 2 rfl; have hc3 := HP.out.cell 3 rfl; have hc4 := HP.out.cell 4 rfl; have hc5 := HP.out.cell 5 rfl)
                    | (go_at_call 118; refine (many_Known.calls k _ _ (km_many k)).mono ?_; rintro e w3 ⟨rfl, hD⟩; rw [HKm.out]; have hB := hD.below; clear hD; have HQ := Aside0.mk (HP.out.below hB); clear HP hB hc0 hc1 hc2 hc3 hc4 hc5; have HP := HQ; clear HQ; have hc0 := HP.out.cell 0 rfl; have hc1 := HP.out.cell 1 rfl; have hc2 := HP.out.cell 2 rfl; have hc3 := HP.out.cell 3 rfl; have hc4 := HP.out.cell 4 rfl; have hc5 := HP.out.cell 5 rfl)
                    | (go_at_call 119; refine (many_Right.calls 5 k a b _ _ (nums_many k a b)).mono ?_; rintro e w3 ⟨rfl, hD⟩; rw [HNu.out]; have hB := hD.below; clear hD; have HQ := Aside0.mk (HP.out.below hB); clear HP hB hc0 hc1 hc2 hc3 hc4 hc5; have HP := HQ; clear HQ; have hc0 := HP.out.cell 0 rfl; have hc1 := HP.out.cell 1 rfl; have hc2 := HP.out.cell 2 rfl; have hc3 := HP.out.cell 3 rfl; have hc4 := HP.out.cell 4 rfl; have hc5 := HP.out.cell 5 rfl)
                    | (go_at_call 120; refine (distinct_is _ A m c cs n HM.out (Kd.C_below HC.out HP.out.bel) hc (by omega) hn).mono ?_; rintro e w3 ⟨rfl, hB⟩; rw [HDs.out]; have HQ := Aside0.mk (HP.out.below hB); clear HP hB hc0 hc1 hc2 hc3 hc4 hc5; have HP := HQ; clear HQ; have hc0 := HP.out.cell 0 rfl; have hc1 := HP.out.cell 1 rfl; have hc2 := HP.out.cell 2 rfl; have hc3 := HP.out.cell 3 rfl; have hc4 := HP.out.cell 4 rfl; have hc5 := HP.out.cell 5 rfl)
                    | (go_at_call 59; refine (problem_cost.calls cost _ _ (cost_eq cost)).mono ?_; rintro e w3 ⟨rfl, hD⟩; rw [HCo.out]; have hB := hD.below; clear hD; have HQ := Aside0.mk (HP.out.below hB); clear HP hB hc0 hc1 hc2 hc3 hc4 hc5; have HP := HQ; clear HQ; have hc0 := HP.out.cell 0 rfl; have hc1 := HP.out.cell 1 rfl; have hc2 := HP.out.cell 2 rfl; have hc3 := HP.out.cell 3 rfl; have hc4 := HP.out.cell 4 rfl; have hc5 := HP.out.cell 5 rfl))
                  go_ret
                  rw [show ruleOk n k cs a b false cost = true from by unfold ruleOk; simp [HM.out, HKp.out, HNu.out, HDs.out, show 2 ≤ m by omega, show m ≤ 12 by omega, H1.out, H2.out]]
                  exact ⟨rfl, HP.out.bel⟩
                · have HCo := Aside0.mk (show (decide (0 ≤ cost) && decide (cost ≤ 1000)) = false by rw [decide_eq_false h2, Bool.and_false])
                  have h2' : decide (cost ≤ 1000) = false := decide_eq_false h2
                  have H2 := Aside0.mk h2
                  go_enter Tryz.func33, Tryz.ntmps33
                  go_wp2_with (first
                    | ((with_reducible refine gate_dst (N := 3) rfl ?_); refine box_event ?hg (N := 3) ?hd (cs := #[.int .i64 k, .slice A m c, .int .i64 a, .int .i64 b, .bool false, .int .i64 cost]) (t := 69) ?hr ?_; (case hd => rfl); (case hg => rfl); (case hr => first | (go_simp; done) | (go_simp; rfl)); intro g hg w2 hbox hB; have HP := Aside0.mk (PBox.mk hbox hB (show w.heap.size ≤ g by rw [hg]; exact Nat.le_refl _)); clear hbox hB hg; have hc0 := HP.out.cell 0 rfl; have hc1 := HP.out.cell 1 rfl; have hc2 := HP.out.cell 2 rfl; have hc3 := HP.out.cell 3 rfl; have hc4 := HP.out.cell 4 rfl; have hc5 := HP.out.cell 5 rfl)
                    | (go_at_call 117; refine (pair_Known.calls k _ _ (kp_pair k)).mono ?_; rintro e w3 ⟨rfl, hD⟩; rw [HKp.out]; have hB := hD.below; clear hD; have HQ := Aside0.mk (HP.out.below hB); clear HP hB hc0 hc1 hc2 hc3 hc4 hc5; have HP := HQ; clear HQ; have hc0 := HP.out.cell 0 rfl; have hc1 := HP.out.cell 1 rfl; have hc2 := HP.out.cell 2 rfl; have hc3 := HP.out.cell 3 rfl; have hc4 := HP.out.cell 4 rfl; have hc5 := HP.out.cell 5 rfl)
                    | (go_at_call 118; refine (many_Known.calls k _ _ (km_many k)).mono ?_; rintro e w3 ⟨rfl, hD⟩; rw [HKm.out]; have hB := hD.below; clear hD; have HQ := Aside0.mk (HP.out.below hB); clear HP hB hc0 hc1 hc2 hc3 hc4 hc5; have HP := HQ; clear HQ; have hc0 := HP.out.cell 0 rfl; have hc1 := HP.out.cell 1 rfl; have hc2 := HP.out.cell 2 rfl; have hc3 := HP.out.cell 3 rfl; have hc4 := HP.out.cell 4 rfl; have hc5 := HP.out.cell 5 rfl)
                    | (go_at_call 119; refine (many_Right.calls 5 k a b _ _ (nums_many k a b)).mono ?_; rintro e w3 ⟨rfl, hD⟩; rw [HNu.out]; have hB := hD.below; clear hD; have HQ := Aside0.mk (HP.out.below hB); clear HP hB hc0 hc1 hc2 hc3 hc4 hc5; have HP := HQ; clear HQ; have hc0 := HP.out.cell 0 rfl; have hc1 := HP.out.cell 1 rfl; have hc2 := HP.out.cell 2 rfl; have hc3 := HP.out.cell 3 rfl; have hc4 := HP.out.cell 4 rfl; have hc5 := HP.out.cell 5 rfl)
                    | (go_at_call 120; refine (distinct_is _ A m c cs n HM.out (Kd.C_below HC.out HP.out.bel) hc (by omega) hn).mono ?_; rintro e w3 ⟨rfl, hB⟩; rw [HDs.out]; have HQ := Aside0.mk (HP.out.below hB); clear HP hB hc0 hc1 hc2 hc3 hc4 hc5; have HP := HQ; clear HQ; have hc0 := HP.out.cell 0 rfl; have hc1 := HP.out.cell 1 rfl; have hc2 := HP.out.cell 2 rfl; have hc3 := HP.out.cell 3 rfl; have hc4 := HP.out.cell 4 rfl; have hc5 := HP.out.cell 5 rfl)
                    | (go_at_call 59; refine (problem_cost.calls cost _ _ (cost_eq cost)).mono ?_; rintro e w3 ⟨rfl, hD⟩; rw [HCo.out]; have hB := hD.below; clear hD; have HQ := Aside0.mk (HP.out.below hB); clear HP hB hc0 hc1 hc2 hc3 hc4 hc5; have HP := HQ; clear HQ; have hc0 := HP.out.cell 0 rfl; have hc1 := HP.out.cell 1 rfl; have hc2 := HP.out.cell 2 rfl; have hc3 := HP.out.cell 3 rfl; have hc4 := HP.out.cell 4 rfl; have hc5 := HP.out.cell 5 rfl))
                  go_ret
                  rw [show ruleOk n k cs a b false cost = false from by unfold ruleOk; simp [HM.out, HKp.out, HNu.out, HDs.out, show 2 ≤ m by omega, show m ≤ 12 by omega, H2.out]]
                  exact ⟨rfl, HP.out.bel⟩
              · have h1' : decide (1 ≤ cost) = false := decide_eq_false h1
                have H1 := Aside0.mk h1
                go_enter Tryz.func33, Tryz.ntmps33
                go_wp2_with (first
                  | ((with_reducible refine gate_dst (N := 3) rfl ?_); refine box_event ?hg (N := 3) ?hd (cs := #[.int .i64 k, .slice A m c, .int .i64 a, .int .i64 b, .bool false, .int .i64 cost]) (t := 69) ?hr ?_; (case hd => rfl); (case hg => rfl); (case hr => first | (go_simp; done) | (go_simp; rfl)); intro g hg w2 hbox hB; have HP := Aside0.mk (PBox.mk hbox hB (show w.heap.size ≤ g by rw [hg]; exact Nat.le_refl _)); clear hbox hB hg; have hc0 := HP.out.cell 0 rfl; have hc1 := HP.out.cell 1 rfl; have hc2 := HP.out.cell 2 rfl; have hc3 := HP.out.cell 3 rfl; have hc4 := HP.out.cell 4 rfl; have hc5 := HP.out.cell 5 rfl)
                  | (go_at_call 117; refine (pair_Known.calls k _ _ (kp_pair k)).mono ?_; rintro e w3 ⟨rfl, hD⟩; rw [HKp.out]; have hB := hD.below; clear hD; have HQ := Aside0.mk (HP.out.below hB); clear HP hB hc0 hc1 hc2 hc3 hc4 hc5; have HP := HQ; clear HQ; have hc0 := HP.out.cell 0 rfl; have hc1 := HP.out.cell 1 rfl; have hc2 := HP.out.cell 2 rfl; have hc3 := HP.out.cell 3 rfl; have hc4 := HP.out.cell 4 rfl; have hc5 := HP.out.cell 5 rfl)
                  | (go_at_call 118; refine (many_Known.calls k _ _ (km_many k)).mono ?_; rintro e w3 ⟨rfl, hD⟩; rw [HKm.out]; have hB := hD.below; clear hD; have HQ := Aside0.mk (HP.out.below hB); clear HP hB hc0 hc1 hc2 hc3 hc4 hc5; have HP := HQ; clear HQ; have hc0 := HP.out.cell 0 rfl; have hc1 := HP.out.cell 1 rfl; have hc2 := HP.out.cell 2 rfl; have hc3 := HP.out.cell 3 rfl; have hc4 := HP.out.cell 4 rfl; have hc5 := HP.out.cell 5 rfl)
                  | (go_at_call 119; refine (many_Right.calls 5 k a b _ _ (nums_many k a b)).mono ?_; rintro e w3 ⟨rfl, hD⟩; rw [HNu.out]; have hB := hD.below; clear hD; have HQ := Aside0.mk (HP.out.below hB); clear HP hB hc0 hc1 hc2 hc3 hc4 hc5; have HP := HQ; clear HQ; have hc0 := HP.out.cell 0 rfl; have hc1 := HP.out.cell 1 rfl; have hc2 := HP.out.cell 2 rfl; have hc3 := HP.out.cell 3 rfl; have hc4 := HP.out.cell 4 rfl; have hc5 := HP.out.cell 5 rfl)
                  | (go_at_call 120; refine (distinct_is _ A m c cs n HM.out (Kd.C_below HC.out HP.out.bel) hc (by omega) hn).mono ?_; rintro e w3 ⟨rfl, hB⟩; rw [HDs.out]; have HQ := Aside0.mk (HP.out.below hB); clear HP hB hc0 hc1 hc2 hc3 hc4 hc5; have HP := HQ; clear HQ; have hc0 := HP.out.cell 0 rfl; have hc1 := HP.out.cell 1 rfl; have hc2 := HP.out.cell 2 rfl; have hc3 := HP.out.cell 3 rfl; have hc4 := HP.out.cell 4 rfl; have hc5 := HP.out.cell 5 rfl)
                  | (go_at_call 59; refine (problem_cost.calls cost _ _ (cost_eq cost)).mono ?_; rintro e w3 ⟨rfl, hD⟩; rw [HCo.out]; have hB := hD.below; clear hD; have HQ := Aside0.mk (HP.out.below hB); clear HP hB hc0 hc1 hc2 hc3 hc4 hc5; have HP := HQ; clear HQ; have hc0 := HP.out.cell 0 rfl; have hc1 := HP.out.cell 1 rfl; have hc2 := HP.out.cell 2 rfl; have hc3 := HP.out.cell 3 rfl; have hc4 := HP.out.cell 4 rfl; have hc5 := HP.out.cell 5 rfl))
                go_ret
                rw [show ruleOk n k cs a b false cost = false from by unfold ruleOk; simp [HM.out, HKp.out, HNu.out, HDs.out, show 2 ≤ m by omega, show m ≤ 12 by omega, show ¬ 1 ≤ cost by have := H1.out; omega]]
                exact ⟨rfl, HP.out.bel⟩
  | false =>
    have HKp := Aside0.mk hkp
    clear hkp
    cases hkm : km k with
    | true =>
      have HKm := Aside0.mk hkm
      clear hkm
      cases hnu : numsOk k a b with
      | false =>
        have HNu := Aside0.mk hnu
        clear hnu
        go_enter Tryz.func33, Tryz.ntmps33
        go_wp2_with (first
          | ((with_reducible refine gate_dst (N := 3) rfl ?_); refine box_event ?hg (N := 3) ?hd (cs := #[.int .i64 k, .slice A m c, .int .i64 a, .int .i64 b, .bool hard, .int .i64 cost]) (t := 69) ?hr ?_; (case hd => rfl); (case hg => rfl); (case hr => first | (go_simp; done) | (go_simp; rfl)); intro g hg w2 hbox hB; have HP := Aside0.mk (PBox.mk hbox hB (show w.heap.size ≤ g by rw [hg]; exact Nat.le_refl _)); clear hbox hB hg; have hc0 := HP.out.cell 0 rfl; have hc1 := HP.out.cell 1 rfl; have hc2 := HP.out.cell 2 rfl; have hc3 := HP.out.cell 3 rfl; have hc4 := HP.out.cell 4 rfl; have hc5 := HP.out.cell 5 rfl)
          | (go_at_call 117; refine (pair_Known.calls k _ _ (kp_pair k)).mono ?_; rintro e w3 ⟨rfl, hD⟩; rw [HKp.out]; have hB := hD.below; clear hD; have HQ := Aside0.mk (HP.out.below hB); clear HP hB hc0 hc1 hc2 hc3 hc4 hc5; have HP := HQ; clear HQ; have hc0 := HP.out.cell 0 rfl; have hc1 := HP.out.cell 1 rfl; have hc2 := HP.out.cell 2 rfl; have hc3 := HP.out.cell 3 rfl; have hc4 := HP.out.cell 4 rfl; have hc5 := HP.out.cell 5 rfl)
          | (go_at_call 118; refine (many_Known.calls k _ _ (km_many k)).mono ?_; rintro e w3 ⟨rfl, hD⟩; rw [HKm.out]; have hB := hD.below; clear hD; have HQ := Aside0.mk (HP.out.below hB); clear HP hB hc0 hc1 hc2 hc3 hc4 hc5; have HP := HQ; clear HQ; have hc0 := HP.out.cell 0 rfl; have hc1 := HP.out.cell 1 rfl; have hc2 := HP.out.cell 2 rfl; have hc3 := HP.out.cell 3 rfl; have hc4 := HP.out.cell 4 rfl; have hc5 := HP.out.cell 5 rfl)
          | (go_at_call 119; refine (many_Right.calls 5 k a b _ _ (nums_many k a b)).mono ?_; rintro e w3 ⟨rfl, hD⟩; rw [HNu.out]; have hB := hD.below; clear hD; have HQ := Aside0.mk (HP.out.below hB); clear HP hB hc0 hc1 hc2 hc3 hc4 hc5; have HP := HQ; clear HQ; have hc0 := HP.out.cell 0 rfl; have hc1 := HP.out.cell 1 rfl; have hc2 := HP.out.cell 2 rfl; have hc3 := HP.out.cell 3 rfl; have hc4 := HP.out.cell 4 rfl; have hc5 := HP.out.cell 5 rfl))
        go_ret
        rw [show ruleOk n k cs a b hard cost = false from by unfold ruleOk; simp [HM.out, HKp.out, HKm.out, HNu.out]]
        exact ⟨rfl, HP.out.bel⟩
      | true =>
        have HNu := Aside0.mk hnu
        clear hnu
        by_cases hl : m < 2
        · have hl1 : (m : Int) < 2 := by omega
          go_enter Tryz.func33, Tryz.ntmps33
          go_wp2_with (first
            | ((with_reducible refine gate_dst (N := 3) rfl ?_); refine box_event ?hg (N := 3) ?hd (cs := #[.int .i64 k, .slice A m c, .int .i64 a, .int .i64 b, .bool hard, .int .i64 cost]) (t := 69) ?hr ?_; (case hd => rfl); (case hg => rfl); (case hr => first | (go_simp; done) | (go_simp; rfl)); intro g hg w2 hbox hB; have HP := Aside0.mk (PBox.mk hbox hB (show w.heap.size ≤ g by rw [hg]; exact Nat.le_refl _)); clear hbox hB hg; have hc0 := HP.out.cell 0 rfl; have hc1 := HP.out.cell 1 rfl; have hc2 := HP.out.cell 2 rfl; have hc3 := HP.out.cell 3 rfl; have hc4 := HP.out.cell 4 rfl; have hc5 := HP.out.cell 5 rfl)
            | (go_at_call 117; refine (pair_Known.calls k _ _ (kp_pair k)).mono ?_; rintro e w3 ⟨rfl, hD⟩; rw [HKp.out]; have hB := hD.below; clear hD; have HQ := Aside0.mk (HP.out.below hB); clear HP hB hc0 hc1 hc2 hc3 hc4 hc5; have HP := HQ; clear HQ; have hc0 := HP.out.cell 0 rfl; have hc1 := HP.out.cell 1 rfl; have hc2 := HP.out.cell 2 rfl; have hc3 := HP.out.cell 3 rfl; have hc4 := HP.out.cell 4 rfl; have hc5 := HP.out.cell 5 rfl)
            | (go_at_call 118; refine (many_Known.calls k _ _ (km_many k)).mono ?_; rintro e w3 ⟨rfl, hD⟩; rw [HKm.out]; have hB := hD.below; clear hD; have HQ := Aside0.mk (HP.out.below hB); clear HP hB hc0 hc1 hc2 hc3 hc4 hc5; have HP := HQ; clear HQ; have hc0 := HP.out.cell 0 rfl; have hc1 := HP.out.cell 1 rfl; have hc2 := HP.out.cell 2 rfl; have hc3 := HP.out.cell 3 rfl; have hc4 := HP.out.cell 4 rfl; have hc5 := HP.out.cell 5 rfl)
            | (go_at_call 119; refine (many_Right.calls 5 k a b _ _ (nums_many k a b)).mono ?_; rintro e w3 ⟨rfl, hD⟩; rw [HNu.out]; have hB := hD.below; clear hD; have HQ := Aside0.mk (HP.out.below hB); clear HP hB hc0 hc1 hc2 hc3 hc4 hc5; have HP := HQ; clear HQ; have hc0 := HP.out.cell 0 rfl; have hc1 := HP.out.cell 1 rfl; have hc2 := HP.out.cell 2 rfl; have hc3 := HP.out.cell 3 rfl; have hc4 := HP.out.cell 4 rfl; have hc5 := HP.out.cell 5 rfl))
          go_ret
          rw [show ruleOk n k cs a b hard cost = false from by unfold ruleOk; simp [HM.out, HKp.out, HKm.out, HNu.out, show ¬ 2 ≤ m by omega]]
          exact ⟨rfl, HP.out.bel⟩
        · have hl1 : ¬ (m : Int) < 2 := by omega
          by_cases hg : 12 < m
          · have hg1 : (12 : Int) < (m : Int) := by omega
            go_enter Tryz.func33, Tryz.ntmps33
            go_wp2_with (first
              | ((with_reducible refine gate_dst (N := 3) rfl ?_); refine box_event ?hg (N := 3) ?hd (cs := #[.int .i64 k, .slice A m c, .int .i64 a, .int .i64 b, .bool hard, .int .i64 cost]) (t := 69) ?hr ?_; (case hd => rfl); (case hg => rfl); (case hr => first | (go_simp; done) | (go_simp; rfl)); intro g hg w2 hbox hB; have HP := Aside0.mk (PBox.mk hbox hB (show w.heap.size ≤ g by rw [hg]; exact Nat.le_refl _)); clear hbox hB hg; have hc0 := HP.out.cell 0 rfl; have hc1 := HP.out.cell 1 rfl; have hc2 := HP.out.cell 2 rfl; have hc3 := HP.out.cell 3 rfl; have hc4 := HP.out.cell 4 rfl; have hc5 := HP.out.cell 5 rfl)
              | (go_at_call 117; refine (pair_Known.calls k _ _ (kp_pair k)).mono ?_; rintro e w3 ⟨rfl, hD⟩; rw [HKp.out]; have hB := hD.below; clear hD; have HQ := Aside0.mk (HP.out.below hB); clear HP hB hc0 hc1 hc2 hc3 hc4 hc5; have HP := HQ; clear HQ; have hc0 := HP.out.cell 0 rfl; have hc1 := HP.out.cell 1 rfl; have hc2 := HP.out.cell 2 rfl; have hc3 := HP.out.cell 3 rfl; have hc4 := HP.out.cell 4 rfl; have hc5 := HP.out.cell 5 rfl)
              | (go_at_call 118; refine (many_Known.calls k _ _ (km_many k)).mono ?_; rintro e w3 ⟨rfl, hD⟩; rw [HKm.out]; have hB := hD.below; clear hD; have HQ := Aside0.mk (HP.out.below hB); clear HP hB hc0 hc1 hc2 hc3 hc4 hc5; have HP := HQ; clear HQ; have hc0 := HP.out.cell 0 rfl; have hc1 := HP.out.cell 1 rfl; have hc2 := HP.out.cell 2 rfl; have hc3 := HP.out.cell 3 rfl; have hc4 := HP.out.cell 4 rfl; have hc5 := HP.out.cell 5 rfl)
              | (go_at_call 119; refine (many_Right.calls 5 k a b _ _ (nums_many k a b)).mono ?_; rintro e w3 ⟨rfl, hD⟩; rw [HNu.out]; have hB := hD.below; clear hD; have HQ := Aside0.mk (HP.out.below hB); clear HP hB hc0 hc1 hc2 hc3 hc4 hc5; have HP := HQ; clear HQ; have hc0 := HP.out.cell 0 rfl; have hc1 := HP.out.cell 1 rfl; have hc2 := HP.out.cell 2 rfl; have hc3 := HP.out.cell 3 rfl; have hc4 := HP.out.cell 4 rfl; have hc5 := HP.out.cell 5 rfl))
            go_ret
            rw [show ruleOk n k cs a b hard cost = false from by unfold ruleOk; simp [HM.out, HKp.out, HKm.out, HNu.out, show ¬ m ≤ 12 by omega]]
            exact ⟨rfl, HP.out.bel⟩
          · have hg1 : ¬ (12 : Int) < (m : Int) := by omega
            cases hds : dstB n cs with
            | false =>
              have HDs := Aside0.mk hds
              clear hds
              go_enter Tryz.func33, Tryz.ntmps33
              go_wp2_with (first
                | ((with_reducible refine gate_dst (N := 3) rfl ?_); refine box_event ?hg (N := 3) ?hd (cs := #[.int .i64 k, .slice A m c, .int .i64 a, .int .i64 b, .bool hard, .int .i64 cost]) (t := 69) ?hr ?_; (case hd => rfl); (case hg => rfl); (case hr => first | (go_simp; done) | (go_simp; rfl)); intro g hg w2 hbox hB; have HP := Aside0.mk (PBox.mk hbox hB (show w.heap.size ≤ g by rw [hg]; exact Nat.le_refl _)); clear hbox hB hg; have hc0 := HP.out.cell 0 rfl; have hc1 := HP.out.cell 1 rfl; have hc2 := HP.out.cell 2 rfl; have hc3 := HP.out.cell 3 rfl; have hc4 := HP.out.cell 4 rfl; have hc5 := HP.out.cell 5 rfl)
                | (go_at_call 117; refine (pair_Known.calls k _ _ (kp_pair k)).mono ?_; rintro e w3 ⟨rfl, hD⟩; rw [HKp.out]; have hB := hD.below; clear hD; have HQ := Aside0.mk (HP.out.below hB); clear HP hB hc0 hc1 hc2 hc3 hc4 hc5; have HP := HQ; clear HQ; have hc0 := HP.out.cell 0 rfl; have hc1 := HP.out.cell 1 rfl; have hc2 := HP.out.cell 2 rfl; have hc3 := HP.out.cell 3 rfl; have hc4 := HP.out.cell 4 rfl; have hc5 := HP.out.cell 5 rfl)
                | (go_at_call 118; refine (many_Known.calls k _ _ (km_many k)).mono ?_; rintro e w3 ⟨rfl, hD⟩; rw [HKm.out]; have hB := hD.below; clear hD; have HQ := Aside0.mk (HP.out.below hB); clear HP hB hc0 hc1 hc2 hc3 hc4 hc5; have HP := HQ; clear HQ; have hc0 := HP.out.cell 0 rfl; have hc1 := HP.out.cell 1 rfl; have hc2 := HP.out.cell 2 rfl; have hc3 := HP.out.cell 3 rfl; have hc4 := HP.out.cell 4 rfl; have hc5 := HP.out.cell 5 rfl)
                | (go_at_call 119; refine (many_Right.calls 5 k a b _ _ (nums_many k a b)).mono ?_; rintro e w3 ⟨rfl, hD⟩; rw [HNu.out]; have hB := hD.below; clear hD; have HQ := Aside0.mk (HP.out.below hB); clear HP hB hc0 hc1 hc2 hc3 hc4 hc5; have HP := HQ; clear HQ; have hc0 := HP.out.cell 0 rfl; have hc1 := HP.out.cell 1 rfl; have hc2 := HP.out.cell 2 rfl; have hc3 := HP.out.cell 3 rfl; have hc4 := HP.out.cell 4 rfl; have hc5 := HP.out.cell 5 rfl)
                | (go_at_call 120; refine (distinct_is _ A m c cs n HM.out (Kd.C_below HC.out HP.out.bel) hc (by omega) hn).mono ?_; rintro e w3 ⟨rfl, hB⟩; rw [HDs.out]; have HQ := Aside0.mk (HP.out.below hB); clear HP hB hc0 hc1 hc2 hc3 hc4 hc5; have HP := HQ; clear HQ; have hc0 := HP.out.cell 0 rfl; have hc1 := HP.out.cell 1 rfl; have hc2 := HP.out.cell 2 rfl; have hc3 := HP.out.cell 3 rfl; have hc4 := HP.out.cell 4 rfl; have hc5 := HP.out.cell 5 rfl))
              go_ret
              rw [show ruleOk n k cs a b hard cost = false from by unfold ruleOk; simp [HM.out, HKp.out, HKm.out, HNu.out, HDs.out]]
              exact ⟨rfl, HP.out.bel⟩
            | true =>
              have HDs := Aside0.mk hds
              clear hds
              cases hard with
              | true =>
                by_cases hz : cost = 0
                · have hz1 : (cost == 0) = true := by simpa using hz
                  have HZ := Aside0.mk hz
                  clear hz
                  go_enter Tryz.func33, Tryz.ntmps33
                  go_wp2_with (first
                    | ((with_reducible refine gate_dst (N := 3) rfl ?_); refine box_event ?hg (N := 3) ?hd (cs := #[.int .i64 k, .slice A m c, .int .i64 a, .int .i64 b, .bool true, .int .i64 cost]) (t := 69) ?hr ?_; (case hd => rfl); (case hg => rfl); (case hr => first | (go_simp; done) | (go_simp; rfl)); intro g hg w2 hbox hB; have HP := Aside0.mk (PBox.mk hbox hB (show w.heap.size ≤ g by rw [hg]; exact Nat.le_refl _)); clear hbox hB hg; have hc0 := HP.out.cell 0 rfl; have hc1 := HP.out.cell 1 rfl; have hc2 := HP.out.cell 2 rfl; have hc3 := HP.out.cell 3 rfl; have hc4 := HP.out.cell 4 rfl; have hc5 := HP.out.cell 5 rfl)
                    | (go_at_call 117; refine (pair_Known.calls k _ _ (kp_pair k)).mono ?_; rintro e w3 ⟨rfl, hD⟩; rw [HKp.out]; have hB := hD.below; clear hD; have HQ := Aside0.mk (HP.out.below hB); clear HP hB hc0 hc1 hc2 hc3 hc4 hc5; have HP := HQ; clear HQ; have hc0 := HP.out.cell 0 rfl; have hc1 := HP.out.cell 1 rfl; have hc2 := HP.out.cell 2 rfl; have hc3 := HP.out.cell 3 rfl; have hc4 := HP.out.cell 4 rfl; have hc5 := HP.out.cell 5 rfl)
                    | (go_at_call 118; refine (many_Known.calls k _ _ (km_many k)).mono ?_; rintro e w3 ⟨rfl, hD⟩; rw [HKm.out]; have hB := hD.below; clear hD; have HQ := Aside0.mk (HP.out.below hB); clear HP hB hc0 hc1 hc2 hc3 hc4 hc5; have HP := HQ; clear HQ; have hc0 := HP.out.cell 0 rfl; have hc1 := HP.out.cell 1 rfl; have hc2 := HP.out.cell 2 rfl; have hc3 := HP.out.cell 3 rfl; have hc4 := HP.out.cell 4 rfl; have hc5 := HP.out.cell 5 rfl)
                    | (go_at_call 119; refine (many_Right.calls 5 k a b _ _ (nums_many k a b)).mono ?_; rintro e w3 ⟨rfl, hD⟩; rw [HNu.out]; have hB := hD.below; clear hD; have HQ := Aside0.mk (HP.out.below hB); clear HP hB hc0 hc1 hc2 hc3 hc4 hc5; have HP := HQ; clear HQ; have hc0 := HP.out.cell 0 rfl; have hc1 := HP.out.cell 1 rfl; have hc2 := HP.out.cell 2 rfl; have hc3 := HP.out.cell 3 rfl; have hc4 := HP.out.cell 4 rfl; have hc5 := HP.out.cell 5 rfl)
                    | (go_at_call 120; refine (distinct_is _ A m c cs n HM.out (Kd.C_below HC.out HP.out.bel) hc (by omega) hn).mono ?_; rintro e w3 ⟨rfl, hB⟩; rw [HDs.out]; have HQ := Aside0.mk (HP.out.below hB); clear HP hB hc0 hc1 hc2 hc3 hc4 hc5; have HP := HQ; clear HQ; have hc0 := HP.out.cell 0 rfl; have hc1 := HP.out.cell 1 rfl; have hc2 := HP.out.cell 2 rfl; have hc3 := HP.out.cell 3 rfl; have hc4 := HP.out.cell 4 rfl; have hc5 := HP.out.cell 5 rfl))
                  go_ret
                  rw [show ruleOk n k cs a b true cost = true from by unfold ruleOk; simp [HM.out, HKp.out, HKm.out, HNu.out, HDs.out, show 2 ≤ m by omega, show m ≤ 12 by omega, HZ.out]]
                  exact ⟨rfl, HP.out.bel⟩
                · have hz1 : (cost == 0) = false := by simpa using hz
                  have hz2 : decide (cost = 0) = false := decide_eq_false hz
                  have HZ := Aside0.mk hz
                  clear hz
                  go_enter Tryz.func33, Tryz.ntmps33
                  go_wp2_with (first
                    | ((with_reducible refine gate_dst (N := 3) rfl ?_); refine box_event ?hg (N := 3) ?hd (cs := #[.int .i64 k, .slice A m c, .int .i64 a, .int .i64 b, .bool true, .int .i64 cost]) (t := 69) ?hr ?_; (case hd => rfl); (case hg => rfl); (case hr => first | (go_simp; done) | (go_simp; rfl)); intro g hg w2 hbox hB; have HP := Aside0.mk (PBox.mk hbox hB (show w.heap.size ≤ g by rw [hg]; exact Nat.le_refl _)); clear hbox hB hg; have hc0 := HP.out.cell 0 rfl; have hc1 := HP.out.cell 1 rfl; have hc2 := HP.out.cell 2 rfl; have hc3 := HP.out.cell 3 rfl; have hc4 := HP.out.cell 4 rfl; have hc5 := HP.out.cell 5 rfl)
                    | (go_at_call 117; refine (pair_Known.calls k _ _ (kp_pair k)).mono ?_; rintro e w3 ⟨rfl, hD⟩; rw [HKp.out]; have hB := hD.below; clear hD; have HQ := Aside0.mk (HP.out.below hB); clear HP hB hc0 hc1 hc2 hc3 hc4 hc5; have HP := HQ; clear HQ; have hc0 := HP.out.cell 0 rfl; have hc1 := HP.out.cell 1 rfl; have hc2 := HP.out.cell 2 rfl; have hc3 := HP.out.cell 3 rfl; have hc4 := HP.out.cell 4 rfl; have hc5 := HP.out.cell 5 rfl)
                    | (go_at_call 118; refine (many_Known.calls k _ _ (km_many k)).mono ?_; rintro e w3 ⟨rfl, hD⟩; rw [HKm.out]; have hB := hD.below; clear hD; have HQ := Aside0.mk (HP.out.below hB); clear HP hB hc0 hc1 hc2 hc3 hc4 hc5; have HP := HQ; clear HQ; have hc0 := HP.out.cell 0 rfl; have hc1 := HP.out.cell 1 rfl; have hc2 := HP.out.cell 2 rfl; have hc3 := HP.out.cell 3 rfl; have hc4 := HP.out.cell 4 rfl; have hc5 := HP.out.cell 5 rfl)
                    | (go_at_call 119; refine (many_Right.calls 5 k a b _ _ (nums_many k a b)).mono ?_; rintro e w3 ⟨rfl, hD⟩; rw [HNu.out]; have hB := hD.below; clear hD; have HQ := Aside0.mk (HP.out.below hB); clear HP hB hc0 hc1 hc2 hc3 hc4 hc5; have HP := HQ; clear HQ; have hc0 := HP.out.cell 0 rfl; have hc1 := HP.out.cell 1 rfl; have hc2 := HP.out.cell 2 rfl; have hc3 := HP.out.cell 3 rfl; have hc4 := HP.out.cell 4 rfl; have hc5 := HP.out.cell 5 rfl)
                    | (go_at_call 120; refine (distinct_is _ A m c cs n HM.out (Kd.C_below HC.out HP.out.bel) hc (by omega) hn).mono ?_; rintro e w3 ⟨rfl, hB⟩; rw [HDs.out]; have HQ := Aside0.mk (HP.out.below hB); clear HP hB hc0 hc1 hc2 hc3 hc4 hc5; have HP := HQ; clear HQ; have hc0 := HP.out.cell 0 rfl; have hc1 := HP.out.cell 1 rfl; have hc2 := HP.out.cell 2 rfl; have hc3 := HP.out.cell 3 rfl; have hc4 := HP.out.cell 4 rfl; have hc5 := HP.out.cell 5 rfl))
                  go_ret
                  rw [show ruleOk n k cs a b true cost = false from by unfold ruleOk; simp [HM.out, HKp.out, HKm.out, HNu.out, HDs.out, show 2 ≤ m by omega, show m ≤ 12 by omega, HZ.out]]
                  exact ⟨rfl, HP.out.bel⟩
              | false =>
                by_cases h1 : 1 ≤ cost
                · by_cases h2 : cost ≤ 1000
                  · have HCo := Aside0.mk (show (decide (0 ≤ cost) && decide (cost ≤ 1000)) = true by rw [Bool.and_eq_true]; exact ⟨decide_eq_true (by omega), decide_eq_true h2⟩)
                    have H1 := Aside0.mk h1
                    have H2 := Aside0.mk h2
                    go_enter Tryz.func33, Tryz.ntmps33
                    go_wp2_with (first
                      | ((with_reducible refine gate_dst (N := 3) rfl ?_); refine box_event ?hg (N := 3) ?hd (cs := #[.int .i64 k, .slice A m c, .int .i64 a, .int .i64 b, .bool false, .int .i64 cost]) (t := 69) ?hr ?_; (case hd => rfl); (case hg => rfl); (case hr => first | (go_simp; done) | (go_simp; rfl)); intro g hg w2 hbox hB; have HP := Aside0.mk (PBox.mk hbox hB (show w.heap.size ≤ g by rw [hg]; exact Nat.le_refl _)); clear hbox hB hg; have hc0 := HP.out.cell 0 rfl; have hc1 := HP.out.cell 1 rfl; have hc2 := HP.out.cell 2 rfl; have hc3 := HP.out.cell 3 rfl; have hc4 := HP.out.cell 4 rfl; have hc5 := HP.out.cell 5 rfl)
                      | (go_at_call 117; refine (pair_Known.calls k _ _ (kp_pair k)).mono ?_; rintro e w3 ⟨rfl, hD⟩; rw [HKp.out]; have hB := hD.below; clear hD; have HQ := Aside0.mk (HP.out.below hB); clear HP hB hc0 hc1 hc2 hc3 hc4 hc5; have HP := HQ; clear HQ; have hc0 := HP.out.cell 0 rfl; have hc1 := HP.out.cell 1 rfl; have hc2 := HP.out.cell 2 rfl; have hc3 := HP.out.cell 3 rfl; have hc4 := HP.out.cell 4 rfl; have hc5 := HP.out.cell 5 rfl)
                      | (go_at_call 118; refine (many_Known.calls k _ _ (km_many k)).mono ?_; rintro e w3 ⟨rfl, hD⟩; rw [HKm.out]; have hB := hD.below; clear hD; have HQ := Aside0.mk (HP.out.below hB); clear HP hB hc0 hc1 hc2 hc3 hc4 hc5; have HP := HQ; clear HQ; have hc0 := HP.out.cell 0 rfl; have hc1 := HP.out.cell 1 rfl; have hc2 := HP.out.cell 2 rfl; have hc3 := HP.out.cell 3 rfl; have hc4 := HP.out.cell 4 rfl; have hc5 := HP.out.cell 5 rfl)
                      | (go_at_call 119; refine (many_Right.calls 5 k a b _ _ (nums_many k a b)).mono ?_; rintro e w3 ⟨rfl, hD⟩; rw [HNu.out]; have hB := hD.below; clear hD; have HQ := Aside0.mk (HP.out.below hB); clear HP hB hc0 hc1 hc2 hc3 hc4 hc5; have HP := HQ; clear HQ; have hc0 := HP.out.cell 0 rfl; have hc1 := HP.out.cell 1 rfl; have hc2 := HP.out.cell 2 rfl; have hc3 := HP.out.cell 3 rfl; have hc4 := HP.out.cell 4 rfl; have hc5 := HP.out.cell 5 rfl)
                      | (go_at_call 120; refine (distinct_is _ A m c cs n HM.out (Kd.C_below HC.out HP.out.bel) hc (by omega) hn).mono ?_; rintro e w3 ⟨rfl, hB⟩; rw [HDs.out]; have HQ := Aside0.mk (HP.out.below hB); clear HP hB hc0 hc1 hc2 hc3 hc4 hc5; have HP := HQ; clear HQ; have hc0 := HP.out.cell 0 rfl; have hc1 := HP.out.cell 1 rfl; have hc2 := HP.out.cell 2 rfl; have hc3 := HP.out.cell 3 rfl; have hc4 := HP.out.cell 4 rfl; have hc5 := HP.out.cell 5 rfl)
                      | (go_at_call 59; refine (problem_cost.calls cost _ _ (cost_eq cost)).mono ?_; rintro e w3 ⟨rfl, hD⟩; rw [HCo.out]; have hB := hD.below; clear hD; have HQ := Aside0.mk (HP.out.below hB); clear HP hB hc0 hc1 hc2 hc3 hc4 hc5; have HP := HQ; clear HQ; have hc0 := HP.out.cell 0 rfl; have hc1 := HP.out.cell 1 rfl; have hc2 := HP.out.cell 2 rfl; have hc3 := HP.out.cell 3 rfl; have hc4 := HP.out.cell 4 rfl; have hc5 := HP.out.cell 5 rfl))
                    go_ret
                    rw [show ruleOk n k cs a b false cost = true from by unfold ruleOk; simp [HM.out, HKp.out, HKm.out, HNu.out, HDs.out, show 2 ≤ m by omega, show m ≤ 12 by omega, H1.out, H2.out]]
                    exact ⟨rfl, HP.out.bel⟩
                  · have HCo := Aside0.mk (show (decide (0 ≤ cost) && decide (cost ≤ 1000)) = false by rw [decide_eq_false h2, Bool.and_false])
                    have h2' : decide (cost ≤ 1000) = false := decide_eq_false h2
                    have H2 := Aside0.mk h2
                    go_enter Tryz.func33, Tryz.ntmps33
                    go_wp2_with (first
                      | ((with_reducible refine gate_dst (N := 3) rfl ?_); refine box_event ?hg (N := 3) ?hd (cs := #[.int .i64 k, .slice A m c, .int .i64 a, .int .i64 b, .bool false, .int .i64 cost]) (t := 69) ?hr ?_; (case hd => rfl); (case hg => rfl); (case hr => first | (go_simp; done) | (go_simp; rfl)); intro g hg w2 hbox hB; have HP := Aside0.mk (PBox.mk hbox hB (show w.heap.size ≤ g by rw [hg]; exact Nat.le_refl _)); clear hbox hB hg; have hc0 := HP.out.cell 0 rfl; have hc1 := HP.out.cell 1 rfl; have hc2 := HP.out.cell 2 rfl; have hc3 := HP.out.cell 3 rfl; have hc4 := HP.out.cell 4 rfl; have hc5 := HP.out.cell 5 rfl)
                      | (go_at_call 117; refine (pair_Known.calls k _ _ (kp_pair k)).mono ?_; rintro e w3 ⟨rfl, hD⟩; rw [HKp.out]; have hB := hD.below; clear hD; have HQ := Aside0.mk (HP.out.below hB); clear HP hB hc0 hc1 hc2 hc3 hc4 hc5; have HP := HQ; clear HQ; have hc0 := HP.out.cell 0 rfl; have hc1 := HP.out.cell 1 rfl; have hc2 := HP.out.cell 2 rfl; have hc3 := HP.out.cell 3 rfl; have hc4 := HP.out.cell 4 rfl; have hc5 := HP.out.cell 5 rfl)
                      | (go_at_call 118; refine (many_Known.calls k _ _ (km_many k)).mono ?_; rintro e w3 ⟨rfl, hD⟩; rw [HKm.out]; have hB := hD.below; clear hD; have HQ := Aside0.mk (HP.out.below hB); clear HP hB hc0 hc1 hc2 hc3 hc4 hc5; have HP := HQ; clear HQ; have hc0 := HP.out.cell 0 rfl; have hc1 := HP.out.cell 1 rfl; have hc2 := HP.out.cell 2 rfl; have hc3 := HP.out.cell 3 rfl; have hc4 := HP.out.cell 4 rfl; have hc5 := HP.out.cell 5 rfl)
                      | (go_at_call 119; refine (many_Right.calls 5 k a b _ _ (nums_many k a b)).mono ?_; rintro e w3 ⟨rfl, hD⟩; rw [HNu.out]; have hB := hD.below; clear hD; have HQ := Aside0.mk (HP.out.below hB); clear HP hB hc0 hc1 hc2 hc3 hc4 hc5; have HP := HQ; clear HQ; have hc0 := HP.out.cell 0 rfl; have hc1 := HP.out.cell 1 rfl; have hc2 := HP.out.cell 2 rfl; have hc3 := HP.out.cell 3 rfl; have hc4 := HP.out.cell 4 rfl; have hc5 := HP.out.cell 5 rfl)
                      | (go_at_call 120; refine (distinct_is _ A m c cs n HM.out (Kd.C_below HC.out HP.out.bel) hc (by omega) hn).mono ?_; rintro e w3 ⟨rfl, hB⟩; rw [HDs.out]; have HQ := Aside0.mk (HP.out.below hB); clear HP hB hc0 hc1 hc2 hc3 hc4 hc5; have HP := HQ; clear HQ; have hc0 := HP.out.cell 0 rfl; have hc1 := HP.out.cell 1 rfl; have hc2 := HP.out.cell 2 rfl; have hc3 := HP.out.cell 3 rfl; have hc4 := HP.out.cell 4 rfl; have hc5 := HP.out.cell 5 rfl)
                      | (go_at_call 59; refine (problem_cost.calls cost _ _ (cost_eq cost)).mono ?_; rintro e w3 ⟨rfl, hD⟩; rw [HCo.out]; have hB := hD.below; clear hD; have HQ := Aside0.mk (HP.out.below hB); clear HP hB hc0 hc1 hc2 hc3 hc4 hc5; have HP := HQ; clear HQ; have hc0 := HP.out.cell 0 rfl; have hc1 := HP.out.cell 1 rfl; have hc2 := HP.out.cell 2 rfl; have hc3 := HP.out.cell 3 rfl; have hc4 := HP.out.cell 4 rfl; have hc5 := HP.out.cell 5 rfl))
                    go_ret
                    rw [show ruleOk n k cs a b false cost = false from by unfold ruleOk; simp [HM.out, HKp.out, HKm.out, HNu.out, HDs.out, show 2 ≤ m by omega, show m ≤ 12 by omega, H2.out]]
                    exact ⟨rfl, HP.out.bel⟩
                · have h1' : decide (1 ≤ cost) = false := decide_eq_false h1
                  have H1 := Aside0.mk h1
                  go_enter Tryz.func33, Tryz.ntmps33
                  go_wp2_with (first
                    | ((with_reducible refine gate_dst (N := 3) rfl ?_); refine box_event ?hg (N := 3) ?hd (cs := #[.int .i64 k, .slice A m c, .int .i64 a, .int .i64 b, .bool false, .int .i64 cost]) (t := 69) ?hr ?_; (case hd => rfl); (case hg => rfl); (case hr => first | (go_simp; done) | (go_simp; rfl)); intro g hg w2 hbox hB; have HP := Aside0.mk (PBox.mk hbox hB (show w.heap.size ≤ g by rw [hg]; exact Nat.le_refl _)); clear hbox hB hg; have hc0 := HP.out.cell 0 rfl; have hc1 := HP.out.cell 1 rfl; have hc2 := HP.out.cell 2 rfl; have hc3 := HP.out.cell 3 rfl; have hc4 := HP.out.cell 4 rfl; have hc5 := HP.out.cell 5 rfl)
                    | (go_at_call 117; refine (pair_Known.calls k _ _ (kp_pair k)).mono ?_; rintro e w3 ⟨rfl, hD⟩; rw [HKp.out]; have hB := hD.below; clear hD; have HQ := Aside0.mk (HP.out.below hB); clear HP hB hc0 hc1 hc2 hc3 hc4 hc5; have HP := HQ; clear HQ; have hc0 := HP.out.cell 0 rfl; have hc1 := HP.out.cell 1 rfl; have hc2 := HP.out.cell 2 rfl; have hc3 := HP.out.cell 3 rfl; have hc4 := HP.out.cell 4 rfl; have hc5 := HP.out.cell 5 rfl)
                    | (go_at_call 118; refine (many_Known.calls k _ _ (km_many k)).mono ?_; rintro e w3 ⟨rfl, hD⟩; rw [HKm.out]; have hB := hD.below; clear hD; have HQ := Aside0.mk (HP.out.below hB); clear HP hB hc0 hc1 hc2 hc3 hc4 hc5; have HP := HQ; clear HQ; have hc0 := HP.out.cell 0 rfl; have hc1 := HP.out.cell 1 rfl; have hc2 := HP.out.cell 2 rfl; have hc3 := HP.out.cell 3 rfl; have hc4 := HP.out.cell 4 rfl; have hc5 := HP.out.cell 5 rfl)
                    | (go_at_call 119; refine (many_Right.calls 5 k a b _ _ (nums_many k a b)).mono ?_; rintro e w3 ⟨rfl, hD⟩; rw [HNu.out]; have hB := hD.below; clear hD; have HQ := Aside0.mk (HP.out.below hB); clear HP hB hc0 hc1 hc2 hc3 hc4 hc5; have HP := HQ; clear HQ; have hc0 := HP.out.cell 0 rfl; have hc1 := HP.out.cell 1 rfl; have hc2 := HP.out.cell 2 rfl; have hc3 := HP.out.cell 3 rfl; have hc4 := HP.out.cell 4 rfl; have hc5 := HP.out.cell 5 rfl)
                    | (go_at_call 120; refine (distinct_is _ A m c cs n HM.out (Kd.C_below HC.out HP.out.bel) hc (by omega) hn).mono ?_; rintro e w3 ⟨rfl, hB⟩; rw [HDs.out]; have HQ := Aside0.mk (HP.out.below hB); clear HP hB hc0 hc1 hc2 hc3 hc4 hc5; have HP := HQ; clear HQ; have hc0 := HP.out.cell 0 rfl; have hc1 := HP.out.cell 1 rfl; have hc2 := HP.out.cell 2 rfl; have hc3 := HP.out.cell 3 rfl; have hc4 := HP.out.cell 4 rfl; have hc5 := HP.out.cell 5 rfl)
                    | (go_at_call 59; refine (problem_cost.calls cost _ _ (cost_eq cost)).mono ?_; rintro e w3 ⟨rfl, hD⟩; rw [HCo.out]; have hB := hD.below; clear hD; have HQ := Aside0.mk (HP.out.below hB); clear HP hB hc0 hc1 hc2 hc3 hc4 hc5; have HP := HQ; clear HQ; have hc0 := HP.out.cell 0 rfl; have hc1 := HP.out.cell 1 rfl; have hc2 := HP.out.cell 2 rfl; have hc3 := HP.out.cell 3 rfl; have hc4 := HP.out.cell 4 rfl; have hc5 := HP.out.cell 5 rfl))
                  go_ret
                  rw [show ruleOk n k cs a b false cost = false from by unfold ruleOk; simp [HM.out, HKp.out, HKm.out, HNu.out, HDs.out, show 2 ≤ m by omega, show m ≤ 12 by omega, show ¬ 1 ≤ cost by have := H1.out; omega]]
                  exact ⟨rfl, HP.out.bel⟩
    | false =>
      have HKm := Aside0.mk hkm
      clear hkm
      go_enter Tryz.func33, Tryz.ntmps33
      go_wp2_with (first
        | ((with_reducible refine gate_dst (N := 3) rfl ?_); refine box_event ?hg (N := 3) ?hd (cs := #[.int .i64 k, .slice A m c, .int .i64 a, .int .i64 b, .bool hard, .int .i64 cost]) (t := 69) ?hr ?_; (case hd => rfl); (case hg => rfl); (case hr => first | (go_simp; done) | (go_simp; rfl)); intro g hg w2 hbox hB; have HP := Aside0.mk (PBox.mk hbox hB (show w.heap.size ≤ g by rw [hg]; exact Nat.le_refl _)); clear hbox hB hg; have hc0 := HP.out.cell 0 rfl; have hc1 := HP.out.cell 1 rfl; have hc2 := HP.out.cell 2 rfl; have hc3 := HP.out.cell 3 rfl; have hc4 := HP.out.cell 4 rfl; have hc5 := HP.out.cell 5 rfl)
        | (go_at_call 117; refine (pair_Known.calls k _ _ (kp_pair k)).mono ?_; rintro e w3 ⟨rfl, hD⟩; rw [HKp.out]; have hB := hD.below; clear hD; have HQ := Aside0.mk (HP.out.below hB); clear HP hB hc0 hc1 hc2 hc3 hc4 hc5; have HP := HQ; clear HQ; have hc0 := HP.out.cell 0 rfl; have hc1 := HP.out.cell 1 rfl; have hc2 := HP.out.cell 2 rfl; have hc3 := HP.out.cell 3 rfl; have hc4 := HP.out.cell 4 rfl; have hc5 := HP.out.cell 5 rfl)
        | (go_at_call 118; refine (many_Known.calls k _ _ (km_many k)).mono ?_; rintro e w3 ⟨rfl, hD⟩; rw [HKm.out]; have hB := hD.below; clear hD; have HQ := Aside0.mk (HP.out.below hB); clear HP hB hc0 hc1 hc2 hc3 hc4 hc5; have HP := HQ; clear HQ; have hc0 := HP.out.cell 0 rfl; have hc1 := HP.out.cell 1 rfl; have hc2 := HP.out.cell 2 rfl; have hc3 := HP.out.cell 3 rfl; have hc4 := HP.out.cell 4 rfl; have hc5 := HP.out.cell 5 rfl))
      go_ret
      rw [show ruleOk n k cs a b hard cost = false from by unfold ruleOk; simp [HM.out, HKp.out, HKm.out]]
      exact ⟨rfl, HP.out.bel⟩
end Go.Proofs.YtineikfhfmiidaaGreat.Pm
namespace Go.Proofs.YtineikfhfmiidaaGreat.Pm
open Go Go.RowKit Go.Proofs.YtineikfhfmiidaaGreat.Gp Go.Proofs.YtineikfhfmiidaaGreatW.PrintWords Go.Proofs.YtineikfhfmiidaaGreatW.PrintLast Go.Proofs.YtineikfhfmiidaaGreatW.PrintMore
set_option linter.unusedVariables false
set_option linter.unusedSimpArgs false
/-- No row is too long. -/
def Short (p : PV) : Prop := p.rooms.length ≤ 30 ∧ p.walk.length ≤ 40 ∧ p.persons.length ≤ 30 ∧ p.classes.length ≤ 50 ∧ p.courses.length ≤ 20 ∧ p.students.length ≤ 210 ∧ p.rules.length ≤ 70
def FewPost (p : PV) (e : Ending) : Prop := ∃ b, e = .returned (.bool b) ∧ (b = true → Short p)
theorem few_mk {p : PV} {b : Bool} {e : Ending} (he : e = .returned (.bool b)) (h : b = true → Short p) : FewPost p e := ⟨b, he, h⟩
theorem row_at {α : Type} {d : Kd α} {q : Nat} {w : World} {A : Option Addr} {n : Nat} {xs : List (List α)} (h : Kd.C (Kd.slice q d) w A n xs) {i : Nat} (hi : i < xs.length) :
    ∃ ad B c, A = some ad ∧ w.cell? (ad.add i) = some (.slice B (xs.getD i []).length c) ∧ (xs.getD i []).length ≤ c ∧ d.C w B (xs.getD i []).length (xs.getD i []) := by
  obtain ⟨ad, cs, e, _, hK, hc0⟩ := Kd.C_get h ([] : List α) (i : Int) (by omega) (by have := h.1; omega)
  obtain ⟨B, cB, rfl, l0, g0⟩ := hK
  rw [Int.toNat_natCast] at l0 g0 hc0
  have hc : w.cell? (ad.add (i * 1 + 0)) = _ := hc0 0 _ rfl
  rw [Nat.mul_one, Nat.add_zero] at hc
  exact ⟨ad, B, cB, e, hc, l0, g0⟩
theorem prow {w wr : World} {g : Nat} {t : TypeId} {p : PV} {a : PA} (h : PBox w wr g t (pcs p a)) : wr.cell? ⟨g, 4, none⟩ = some (.slice a.A4 p.rooms.length a.c4) ∧ wr.cell? ⟨g, 5, none⟩ = some (.slice a.A5 p.walk.length a.c5) ∧ wr.cell? ⟨g, 6, none⟩ = some (.slice a.A6 p.persons.length a.c6) ∧ wr.cell? ⟨g, 7, none⟩ = some (.slice a.A7 p.classes.length a.c7) ∧ wr.cell? ⟨g, 8, none⟩ = some (.slice a.A8 p.courses.length a.c8) ∧ wr.cell? ⟨g, 9, none⟩ = some (.slice a.A9 p.students.length a.c9) ∧ wr.cell? ⟨g, 10, none⟩ = some (.slice a.A10 p.rules.length a.c10) :=
  ⟨h.cell 4 rfl, h.cell 5 rfl, h.cell 6 rfl, h.cell 7 rfl, h.cell 8 rfl, h.cell 9 rfl, h.cell 10 rfl⟩
set_option maxRecDepth 100000 in
set_option maxHeartbeats 4000000 in
theorem Few_is (w : World) (p : PV) (a : PA) (h : PRd w p a) :
    Calls Tryz.prog 8 #[.agg (pcs p a)] w fun e w' => FewPost p e ∧ Below w.heap.size w w' := by
  have H := Aside0.mk h
  clear h
  have hu := Tryz.underlying34
  by_cases h4 : 30 < p.rooms.length
  · have j4 : (30 : Int) < (p.rooms.length : Int) := by omega
    go_enter Tryz.func8, Tryz.ntmps8
    go_wp2_with (first
      | ((with_reducible refine gate_dst (N := 1) rfl ?_); refine box_event ?hg (N := 1) ?hd (cs := pcs p a) (t := 34) ?hr ?_; (case hd => rfl); (case hg => rfl); (case hr => first | (go_simp; done) | (go_simp; rfl)); intro g hg w2 hbox hB; have HP := Aside0.mk (PBox.mk hbox hB (show w.heap.size ≤ g by rw [hg]; exact Nat.le_refl _)); clear hbox hB hg; obtain ⟨hc4, hc5, hc6, hc7, hc8, hc9, hc10⟩ := prow HP.out))
    go_ret
    exact ⟨few_mk rfl (fun hf => by cases hf), HP.out.bel⟩
  have j4 : ¬ (30 : Int) < (p.rooms.length : Int) := by omega
  by_cases h5 : 40 < p.walk.length
  · have j5 : (40 : Int) < (p.walk.length : Int) := by omega
    go_enter Tryz.func8, Tryz.ntmps8
    go_wp2_with (first
      | ((with_reducible refine gate_dst (N := 1) rfl ?_); refine box_event ?hg (N := 1) ?hd (cs := pcs p a) (t := 34) ?hr ?_; (case hd => rfl); (case hg => rfl); (case hr => first | (go_simp; done) | (go_simp; rfl)); intro g hg w2 hbox hB; have HP := Aside0.mk (PBox.mk hbox hB (show w.heap.size ≤ g by rw [hg]; exact Nat.le_refl _)); clear hbox hB hg; obtain ⟨hc4, hc5, hc6, hc7, hc8, hc9, hc10⟩ := prow HP.out))
    go_ret
    exact ⟨few_mk rfl (fun hf => by cases hf), HP.out.bel⟩
  have j5 : ¬ (40 : Int) < (p.walk.length : Int) := by omega
  by_cases h6 : 30 < p.persons.length
  · have j6 : (30 : Int) < (p.persons.length : Int) := by omega
    go_enter Tryz.func8, Tryz.ntmps8
    go_wp2_with (first
      | ((with_reducible refine gate_dst (N := 1) rfl ?_); refine box_event ?hg (N := 1) ?hd (cs := pcs p a) (t := 34) ?hr ?_; (case hd => rfl); (case hg => rfl); (case hr => first | (go_simp; done) | (go_simp; rfl)); intro g hg w2 hbox hB; have HP := Aside0.mk (PBox.mk hbox hB (show w.heap.size ≤ g by rw [hg]; exact Nat.le_refl _)); clear hbox hB hg; obtain ⟨hc4, hc5, hc6, hc7, hc8, hc9, hc10⟩ := prow HP.out))
    go_ret
    exact ⟨few_mk rfl (fun hf => by cases hf), HP.out.bel⟩
  have j6 : ¬ (30 : Int) < (p.persons.length : Int) := by omega
  by_cases h7 : 50 < p.classes.length
  · have j7 : (50 : Int) < (p.classes.length : Int) := by omega
    go_enter Tryz.func8, Tryz.ntmps8
    go_wp2_with (first
      | ((with_reducible refine gate_dst (N := 1) rfl ?_); refine box_event ?hg (N := 1) ?hd (cs := pcs p a) (t := 34) ?hr ?_; (case hd => rfl); (case hg => rfl); (case hr => first | (go_simp; done) | (go_simp; rfl)); intro g hg w2 hbox hB; have HP := Aside0.mk (PBox.mk hbox hB (show w.heap.size ≤ g by rw [hg]; exact Nat.le_refl _)); clear hbox hB hg; obtain ⟨hc4, hc5, hc6, hc7, hc8, hc9, hc10⟩ := prow HP.out))
    go_ret
    exact ⟨few_mk rfl (fun hf => by cases hf), HP.out.bel⟩
  have j7 : ¬ (50 : Int) < (p.classes.length : Int) := by omega
  by_cases h8 : 20 < p.courses.length
  · have j8 : (20 : Int) < (p.courses.length : Int) := by omega
    go_enter Tryz.func8, Tryz.ntmps8
    go_wp2_with (first
      | ((with_reducible refine gate_dst (N := 1) rfl ?_); refine box_event ?hg (N := 1) ?hd (cs := pcs p a) (t := 34) ?hr ?_; (case hd => rfl); (case hg => rfl); (case hr => first | (go_simp; done) | (go_simp; rfl)); intro g hg w2 hbox hB; have HP := Aside0.mk (PBox.mk hbox hB (show w.heap.size ≤ g by rw [hg]; exact Nat.le_refl _)); clear hbox hB hg; obtain ⟨hc4, hc5, hc6, hc7, hc8, hc9, hc10⟩ := prow HP.out))
    go_ret
    exact ⟨few_mk rfl (fun hf => by cases hf), HP.out.bel⟩
  have j8 : ¬ (20 : Int) < (p.courses.length : Int) := by omega
  by_cases h9 : 210 < p.students.length
  · have j9 : (210 : Int) < (p.students.length : Int) := by omega
    go_enter Tryz.func8, Tryz.ntmps8
    go_wp2_with (first
      | ((with_reducible refine gate_dst (N := 1) rfl ?_); refine box_event ?hg (N := 1) ?hd (cs := pcs p a) (t := 34) ?hr ?_; (case hd => rfl); (case hg => rfl); (case hr => first | (go_simp; done) | (go_simp; rfl)); intro g hg w2 hbox hB; have HP := Aside0.mk (PBox.mk hbox hB (show w.heap.size ≤ g by rw [hg]; exact Nat.le_refl _)); clear hbox hB hg; obtain ⟨hc4, hc5, hc6, hc7, hc8, hc9, hc10⟩ := prow HP.out))
    go_ret
    exact ⟨few_mk rfl (fun hf => by cases hf), HP.out.bel⟩
  have j9 : ¬ (210 : Int) < (p.students.length : Int) := by omega
  by_cases h10 : 70 < p.rules.length
  · have j10 : (70 : Int) < (p.rules.length : Int) := by omega
    go_enter Tryz.func8, Tryz.ntmps8
    go_wp2_with (first
      | ((with_reducible refine gate_dst (N := 1) rfl ?_); refine box_event ?hg (N := 1) ?hd (cs := pcs p a) (t := 34) ?hr ?_; (case hd => rfl); (case hg => rfl); (case hr => first | (go_simp; done) | (go_simp; rfl)); intro g hg w2 hbox hB; have HP := Aside0.mk (PBox.mk hbox hB (show w.heap.size ≤ g by rw [hg]; exact Nat.le_refl _)); clear hbox hB hg; obtain ⟨hc4, hc5, hc6, hc7, hc8, hc9, hc10⟩ := prow HP.out))
    go_ret
    exact ⟨few_mk rfl (fun hf => by cases hf), HP.out.bel⟩
  have j10 : ¬ (70 : Int) < (p.rules.length : Int) := by omega
  have HSh := Aside0.mk (show Short p from ⟨by omega, by omega, by omega, by omega, by omega, by omega, by omega⟩)
  go_enter Tryz.func8, Tryz.ntmps8
  go_wp2_with (first
    | ((with_reducible refine gate_dst (N := 1) rfl ?_); refine box_event ?hg (N := 1) ?hd (cs := pcs p a) (t := 34) ?hr ?_; (case hd => rfl); (case hg => rfl); (case hr => first | (go_simp; done) | (go_simp; rfl)); intro g hg w2 hbox hB; have HP := Aside0.mk (PBox.mk hbox hB (show w.heap.size ≤ g by rw [hg]; exact Nat.le_refl _)); clear hbox hB hg; obtain ⟨hc4, hc5, hc6, hc7, hc8, hc9, hc10⟩ := prow HP.out))
  go_loopw [3, 4] (fun v3 v4 wr => ∃ (x : Int) (i : Nat), i ≤ p.rooms.length ∧ v3 = .int .i64 x ∧ v4 = .int .i64 i ∧ Aside0 (PBox w wr g 34 (pcs p a))) (fun _ v4 _ => p.rooms.length - (intOf v4).toNat)
  case atStart => exact ⟨_, 0, Nat.zero_le _, rfl, rfl, HP⟩
  case round =>
    clear HP hc4 hc5 hc6 hc7 hc8 hc9 hc10
    obtain ⟨x, i, hi, rfl, rfl, HP⟩ := hrel
    obtain ⟨hc4, hc5, hc6, hc7, hc8, hc9, hc10⟩ := prow HP.out
    by_cases hin : i < p.rooms.length
    · have hi2 : (i : Int) < (p.rooms.length : Int) := by omega
      obtain ⟨ad, B3, c3, hA, e0, e1, e2, e3, l3, g3⟩ := at_T47 (Kd.C_below H.out.r4 HP.out.bel) (i : Int) (by omega) (by omega)
      rw [Int.toNat_natCast] at e0 e1 e2 e3
      rw [hA] at hc4
      clear l3 g3
      go_wp2
      exact ⟨⟨_, i + 1, by omega, rfl, by go_num, HP⟩, by simp [intOf]; omega⟩
    · obtain rfl : i = p.rooms.length := by omega
      go_wp2
      go_loopw [3, 5] (fun v3 v5 wr => ∃ (x : Int) (i : Nat), i ≤ p.walk.length ∧ v3 = .int .i64 x ∧ v5 = .int .i64 i ∧ Aside0 (PBox w wr g 34 (pcs p a))) (fun _ v5 _ => p.walk.length - (intOf v5).toNat)
      case atStart => exact ⟨_, 0, Nat.zero_le _, rfl, rfl, HP⟩
      case round =>
        clear HP hc4 hc5 hc6 hc7 hc8 hc9 hc10
        obtain ⟨x, i, hi, rfl, rfl, HP⟩ := hrel
        obtain ⟨hc4, hc5, hc6, hc7, hc8, hc9, hc10⟩ := prow HP.out
        by_cases hin : i < p.walk.length
        · have hi2 : (i : Int) < (p.walk.length : Int) := by omega
          obtain ⟨ad, B, c, hA, e0, l0, g0⟩ := row_at (Kd.C_below H.out.r5 HP.out.bel) hin
          rw [hA] at hc5
          clear l0 g0
          go_wp2
          exact ⟨⟨_, i + 1, by omega, rfl, by go_num, HP⟩, by simp [intOf]; omega⟩
        · obtain rfl : i = p.walk.length := by omega
          go_wp2
          go_loopw [3, 6] (fun v3 v6 wr => ∃ (x : Int) (i : Nat), i ≤ p.persons.length ∧ v3 = .int .i64 x ∧ v6 = .int .i64 i ∧ Aside0 (PBox w wr g 34 (pcs p a))) (fun _ v6 _ => p.persons.length - (intOf v6).toNat)
          case atStart => exact ⟨_, 0, Nat.zero_le _, rfl, rfl, HP⟩
          case round =>
            clear HP hc4 hc5 hc6 hc7 hc8 hc9 hc10
            obtain ⟨x, i, hi, rfl, rfl, HP⟩ := hrel
            obtain ⟨hc4, hc5, hc6, hc7, hc8, hc9, hc10⟩ := prow HP.out
            by_cases hin : i < p.persons.length
            · have hi2 : (i : Int) < (p.persons.length : Int) := by omega
              obtain ⟨ad, B1, c1, hA, e0, e1, l1, g1⟩ := at_T53 (Kd.C_below H.out.r6 HP.out.bel) (i : Int) (by omega) (by omega)
              rw [Int.toNat_natCast] at e0 e1
              rw [hA] at hc6
              clear l1 g1
              go_wp2
              exact ⟨⟨_, i + 1, by omega, rfl, by go_num, HP⟩, by simp [intOf]; omega⟩
            · obtain rfl : i = p.persons.length := by omega
              go_wp2
              go_loopw [3, 7] (fun v3 v7 wr => ∃ (x : Int) (i : Nat), i ≤ p.classes.length ∧ v3 = .int .i64 x ∧ v7 = .int .i64 i ∧ Aside0 (PBox w wr g 34 (pcs p a))) (fun _ v7 _ => p.classes.length - (intOf v7).toNat)
              case atStart => exact ⟨_, 0, Nat.zero_le _, rfl, rfl, HP⟩
              case round =>
                clear HP hc4 hc5 hc6 hc7 hc8 hc9 hc10
                obtain ⟨x, i, hi, rfl, rfl, HP⟩ := hrel
                obtain ⟨hc4, hc5, hc6, hc7, hc8, hc9, hc10⟩ := prow HP.out
                by_cases hin : i < p.classes.length
                · have hi2 : (i : Int) < (p.classes.length : Int) := by omega
                  obtain ⟨ad, B3, c3, B4, c4, B5, c5, hA, e0, e1, e2, e3, e4, e5, e6, l3, g3, l4, g4, l5, g5⟩ := at_T58 (Kd.C_below H.out.r7 HP.out.bel) (i : Int) (by omega) (by omega)
                  rw [Int.toNat_natCast] at e0 e1 e2 e3 e4 e5 e6
                  rw [hA] at hc7
                  clear l3 g3 l4 g4 l5 g5
                  go_wp2
                  go_quiet (fail)
                  go_wp2
                  exact ⟨⟨_, i + 1, by omega, rfl, by go_num, ⟨HP.out.below (pw_below_drewN (Below.refl _ _) nq)⟩⟩, by simp [intOf]; omega⟩
                · obtain rfl : i = p.classes.length := by omega
                  go_wp2
                  go_loopw [3, 8] (fun v3 v8 wr => ∃ (x : Int) (i : Nat), i ≤ p.students.length ∧ v3 = .int .i64 x ∧ v8 = .int .i64 i ∧ Aside0 (PBox w wr g 34 (pcs p a))) (fun _ v8 _ => p.students.length - (intOf v8).toNat)
                  case atStart => exact ⟨_, 0, Nat.zero_le _, rfl, rfl, HP⟩
                  case round =>
                    clear HP hc4 hc5 hc6 hc7 hc8 hc9 hc10
                    obtain ⟨x, i, hi, rfl, rfl, HP⟩ := hrel
                    obtain ⟨hc4, hc5, hc6, hc7, hc8, hc9, hc10⟩ := prow HP.out
                    by_cases hin : i < p.students.length
                    · have hi2 : (i : Int) < (p.students.length : Int) := by omega
                      obtain ⟨ad, B1, c1, hA, e0, e1, l1, g1⟩ := at_T66 (Kd.C_below H.out.r9 HP.out.bel) (i : Int) (by omega) (by omega)
                      rw [Int.toNat_natCast] at e0 e1
                      rw [hA] at hc9
                      clear l1 g1
                      go_wp2
                      exact ⟨⟨_, i + 1, by omega, rfl, by go_num, HP⟩, by simp [intOf]; omega⟩
                    · obtain rfl : i = p.students.length := by omega
                      go_wp2
                      go_loopw [3, 9] (fun v3 v9 wr => ∃ (x : Int) (i : Nat), i ≤ p.rules.length ∧ v3 = .int .i64 x ∧ v9 = .int .i64 i ∧ Aside0 (PBox w wr g 34 (pcs p a))) (fun _ v9 _ => p.rules.length - (intOf v9).toNat)
                      case atStart => exact ⟨_, 0, Nat.zero_le _, rfl, rfl, HP⟩
                      case round =>
                        clear HP hc4 hc5 hc6 hc7 hc8 hc9 hc10
                        obtain ⟨x, i, hi, rfl, rfl, HP⟩ := hrel
                        obtain ⟨hc4, hc5, hc6, hc7, hc8, hc9, hc10⟩ := prow HP.out
                        by_cases hin : i < p.rules.length
                        · have hi2 : (i : Int) < (p.rules.length : Int) := by omega
                          obtain ⟨ad, B1, c1, hA, e0, e1, e2, e3, e4, e5, l1, g1⟩ := at_T69 (Kd.C_below H.out.r10 HP.out.bel) (i : Int) (by omega) (by omega)
                          rw [Int.toNat_natCast] at e0 e1 e2 e3 e4 e5
                          rw [hA] at hc10
                          clear l1 g1
                          go_wp2
                          exact ⟨⟨_, i + 1, by omega, rfl, by go_num, HP⟩, by simp [intOf]; omega⟩
                        · obtain rfl : i = p.rules.length := by omega
                          go_wp2
                          go_loopw [3, 10] (fun v3 v10 wr => ∃ (x : Int) (i : Nat), i ≤ p.courses.length ∧ v3 = .int .i64 x ∧ v10 = .int .i64 i ∧ Aside0 (PBox w wr g 34 (pcs p a))) (fun _ v10 _ => p.courses.length - (intOf v10).toNat)
                          case atStart => exact ⟨_, 0, Nat.zero_le _, rfl, rfl, HP⟩
                          case round =>
                            clear HP hc4 hc5 hc6 hc7 hc8 hc9 hc10
                            obtain ⟨x, i, hi, rfl, rfl, HP⟩ := hrel
                            obtain ⟨hc4, hc5, hc6, hc7, hc8, hc9, hc10⟩ := prow HP.out
                            by_cases hin : i < p.courses.length
                            · have hi2 : (i : Int) < (p.courses.length : Int) := by omega
                              obtain ⟨x3, hx3⟩ : ∃ y, y = p.courses.getD i z61 := ⟨_, rfl⟩
                              obtain ⟨ad, B1, c1, hA, e0, e1, l1, g1⟩ := at_T61 (Kd.C_below H.out.r8 HP.out.bel) (i : Int) (by omega) (by omega)
                              rw [Int.toNat_natCast] at e0 e1
                              unfold rd_T61 at e0 e1 l1 g1
                              rw [Int.toNat_natCast, ← hx3] at e0 e1 l1 g1
                              rw [hA] at hc8
                              have HE := Aside0.mk e1
                              have HG := Aside0.mk g1
                              have hmx := Kd.C_max g1
                              clear hx3 g1 l1 e0
                              generalize x3.f1 = ws at HE HG hmx e1
                              go_wp2
                              go_loopw [3, 11] (fun v3 v11 wr => ∃ (x : Int) (k : Nat), k ≤ ws.length ∧ v3 = .int .i64 x ∧ v11 = .int .i64 k ∧ Aside0 (PBox w wr g 34 (pcs p a)) ∧ Aside0 (wr.cell? ⟨(ad.add (i * 2)).block, (ad.add (i * 2)).off + 1, none⟩ = some (.slice B1 ws.length c1)) ∧ Aside0 (Kd.C k63 wr B1 ws.length ws)) (fun _ v11 _ => ws.length - (intOf v11).toNat)
                              case atStart => exact ⟨_, 0, Nat.zero_le _, rfl, rfl, HP, HE, HG⟩
                              case round =>
                                clear HP HE HG e1 hc4 hc5 hc6 hc7 hc8 hc9 hc10
                                obtain ⟨x, k, hk, rfl, rfl, HP, HE, HG⟩ := hrel
                                obtain ⟨hc4, hc5, hc6, hc7, hc8, hc9, hc10⟩ := prow HP.out
                                have e1 := HE.out
                                rw [hA] at hc8
                                by_cases hkn : k < ws.length
                                · have hk2 : (k : Int) < (ws.length : Int) := by omega
                                  obtain ⟨ad2, B2, c2, hA2, f0, l2, g2⟩ := at_T63 HG.out (k : Int) (by omega) (by omega)
                                  rw [Int.toNat_natCast] at f0
                                  unfold rd_T63 at f0 l2 g2
                                  rw [Int.toNat_natCast] at f0 l2 g2
                                  (try rw [Nat.mul_one] at f0)
                                  rw [hA2] at e1
                                  have HF := Aside0.mk f0
                                  have HG2 := Aside0.mk g2
                                  have hmx2 := Kd.C_max g2
                                  clear l2 g2
                                  generalize (ws.getD k z63).f0 = ps at HF HG2 hmx2 f0
                                  go_wp2
                                  go_loopw [3, 12] (fun v3 v12 wr => ∃ (x : Int) (q : Nat), q ≤ ps.length ∧ v3 = .int .i64 x ∧ v12 = .int .i64 q ∧ Aside0 (PBox w wr g 34 (pcs p a)) ∧ Aside0 (wr.cell? ⟨(ad.add (i * 2)).block, (ad.add (i * 2)).off + 1, none⟩ = some (.slice (some ad2) ws.length c1)) ∧ Aside0 (Kd.C k63 wr (some ad2) ws.length ws) ∧ Aside0 (wr.cell? (ad2.add k) = some (.slice B2 ps.length c2)) ∧ Aside0 (Kd.C (Kd.slice 3 (Kd.int .i64)) wr B2 ps.length ps)) (fun _ v12 _ => ps.length - (intOf v12).toNat)
                                  case atStart => exact ⟨_, 0, Nat.zero_le _, rfl, rfl, HP, ⟨e1⟩, ⟨by rw [← hA2]; exact HG.out⟩, HF, HG2⟩
                                  case round =>
                                    clear HP HE HG HF HG2 e1 f0 hc4 hc5 hc6 hc7 hc8 hc9 hc10
                                    obtain ⟨x, q, hq, rfl, rfl, HP, HE, HG, HF, HG2⟩ := hrel
                                    obtain ⟨hc4, hc5, hc6, hc7, hc8, hc9, hc10⟩ := prow HP.out
                                    have e1 := HE.out
                                    have f0 := HF.out
                                    rw [hA] at hc8
                                    by_cases hqn : q < ps.length
                                    · have hq2 : (q : Int) < (ps.length : Int) := by omega
                                      obtain ⟨ad3, B3, c3, hA3, t0, l3, g3⟩ := row_at HG2.out hqn
                                      rw [hA3] at f0
                                      clear l3 g3
                                      go_wp2
                                      exact ⟨⟨_, q + 1, by omega, rfl, by go_num, HP, HE, HG, HF, HG2⟩, by simp [intOf]; omega⟩
                                    · obtain rfl : q = ps.length := by omega
                                      go_wp2
                                      exact ⟨⟨_, k + 1, by omega, rfl, by go_num, HP, ⟨by rw [hA2]; exact HE.out⟩, ⟨by rw [hA2]; exact HG.out⟩⟩, by simp [intOf]; omega⟩
                                · obtain rfl : k = ws.length := by omega
                                  go_wp2
                                  exact ⟨⟨_, i + 1, by omega, rfl, by go_num, HP⟩, by simp [intOf]; omega⟩
                            · obtain rfl : i = p.courses.length := by omega
                              go_wp2
                              go_ret
                              exact ⟨few_mk rfl (fun _ => HSh.out), HP.out.bel⟩
end Go.Proofs.YtineikfhfmiidaaGreat.Pm
namespace Go.Proofs.YtineikfhfmiidaaGreat.Pm
open Go Go.RowKit Go.Proofs.YtineikfhfmiidaaGreat.Gp Go.Proofs.YtineikfhfmiidaaGreat.Mw Go.Proofs.YtineikfhfmiidaaGreatW.PrintWords Go.Proofs.YtineikfhfmiidaaGreatW.PrintLast Go.Proofs.YtineikfhfmiidaaGreatW.PrintMore
set_option linter.unusedVariables false
set_option linter.unusedSimpArgs false
/-- May a rule be? -/
def ruleB (n : Int) (x : S69) : Bool := ruleOk n x.f0 x.f1 x.f2 x.f3 x.f4 x.f5
theorem elStudent {w : World} {A : Option Addr} {n : Nat} {xs : List S66} (h : Kd.C k66 w A n xs) {i : Nat} {x : S66} (hx : xs[i]? = some x) :
    ∃ (ad : Addr) (B1 : Option Addr) (d1 : Nat), A = some ad ∧ w.cell? (ad.add (i * 2)) = some (.string x.f0) ∧ w.cell? ⟨(ad.add (i * 2)).block, (ad.add (i * 2)).off + 1, none⟩ = some (.slice B1 x.f1.length d1) ∧ (Kd.C (Kd.int .i64) w B1 x.f1.length x.f1 ∧ x.f1.length ≤ d1) := by
  obtain ⟨ad, cs, e, hK, hc⟩ := cl_get h hx
  obtain ⟨B1, d1, rfl, l1, g1⟩ := k66_open hK
  exact ⟨ad, B1, d1, e, hc 0 _ rfl, show w.cell? ((ad.add (i * 2)).add 1) = _ by rw [Deep.add_add]; exact hc 1 _ rfl, ⟨g1, l1⟩⟩
theorem elRule {w : World} {A : Option Addr} {n : Nat} {xs : List S69} (h : Kd.C k69 w A n xs) {i : Nat} {x : S69} (hx : xs[i]? = some x) :
    ∃ (ad : Addr) (B1 : Option Addr) (d1 : Nat), A = some ad ∧ w.cell? (ad.add (i * 6)) = some (.int .i64 x.f0) ∧ w.cell? ⟨(ad.add (i * 6)).block, (ad.add (i * 6)).off + 1, none⟩ = some (.slice B1 x.f1.length d1) ∧ w.cell? ⟨(ad.add (i * 6)).block, (ad.add (i * 6)).off + 2, none⟩ = some (.int .i64 x.f2) ∧ w.cell? ⟨(ad.add (i * 6)).block, (ad.add (i * 6)).off + 3, none⟩ = some (.int .i64 x.f3) ∧ w.cell? ⟨(ad.add (i * 6)).block, (ad.add (i * 6)).off + 4, none⟩ = some (.bool x.f4) ∧ w.cell? ⟨(ad.add (i * 6)).block, (ad.add (i * 6)).off + 5, none⟩ = some (.int .i64 x.f5) ∧ (Kd.C (Kd.int .i64) w B1 x.f1.length x.f1 ∧ x.f1.length ≤ d1) := by
  obtain ⟨ad, cs, e, hK, hc⟩ := cl_get h hx
  obtain ⟨B1, d1, rfl, l1, g1⟩ := k69_open hK
  exact ⟨ad, B1, d1, e, hc 0 _ rfl, show w.cell? ((ad.add (i * 6)).add 1) = _ by rw [Deep.add_add]; exact hc 1 _ rfl, show w.cell? ((ad.add (i * 6)).add 2) = _ by rw [Deep.add_add]; exact hc 2 _ rfl, show w.cell? ((ad.add (i * 6)).add 3) = _ by rw [Deep.add_add]; exact hc 3 _ rfl, show w.cell? ((ad.add (i * 6)).add 4) = _ by rw [Deep.add_add]; exact hc 4 _ rfl, show w.cell? ((ad.add (i * 6)).add 5) = _ by rw [Deep.add_add]; exact hc 5 _ rfl, ⟨g1, l1⟩⟩
set_option maxRecDepth 100000 in
set_option maxHeartbeats 2000000 in
theorem csRoom (w : World) (p : PV) (a : PA) (hsh : Short p) (x : S47) (B3 : Option Addr) (d3 : Nat) (g3 : Kd.C k50 w B3 x.f3.length x.f3) (l3 : x.f3.length ≤ d3) (hgood : ∀ y, y ∈ x.f3 → GoodW y) (pb : Nat) (hpb : w.heap[pb]? = some (.cells (pcs p a) 34 (0, 0))) :
    Calls Tryz.prog 38 #[.agg #[.string x.f0, .int .i64 x.f1, .int .u16 x.f2, .slice B3 x.f3.length d3], .pointer (some ⟨pb, 0, none⟩)] w fun e w' => e = .returned (.bool (roomB p.g0 p.g1 p.g2 x)) ∧ Below w.heap.size w w' := by
  have HP := Aside0.mk hpb
  have HSh := Aside0.mk hsh
  have HGo := Aside0.mk hgood
  have HG3 := Aside0.mk g3
  have HL3 := Aside0.mk l3
  clear hpb hsh hgood g3 l3
  have hut := Tryz.underlying47
  have hup := Tryz.underlying34
  have hug := Tryz.underlying23
  go_enter Tryz.func38, Tryz.ntmps38
  go_wp2_with (first
    | ((with_reducible refine gate_dst (N := 2) rfl ?_); refine box_event ?hg (N := 2) ?hd (cs := #[.string x.f0, .int .i64 x.f1, .int .u16 x.f2, .slice B3 x.f3.length d3]) (t := 47) ?hr ?_; (case hd => rfl); (case hg => rfl); (case hr => first | (go_simp; done) | (go_simp; rfl)); intro gx hgx w2 hbox hB; have HB := Aside0.mk hB; have HX := Aside0.mk hbox; have HP2 := Aside0.mk (blk_then HP.out hB); clear hbox hB hgx; have hp1 : w2.cell? ⟨pb, 1, none⟩ = some (.int .i64 p.g0) := (blk_cell HP2.out 1).trans rfl; have hp2 : w2.cell? ⟨pb, 2, none⟩ = some (.int .i64 p.g1) := (blk_cell HP2.out 2).trans rfl; have hp3 : w2.cell? ⟨pb, 3, none⟩ = some (.int .i64 p.g2) := (blk_cell HP2.out 3).trans rfl; have hx0 : w2.cell? ⟨gx, 0, none⟩ = some (.string x.f0) := (blk_cell HX.out 0).trans rfl; have hx1 : w2.cell? ⟨gx, 1, none⟩ = some (.int .i64 x.f1) := (blk_cell HX.out 1).trans rfl; have hx2 : w2.cell? ⟨gx, 2, none⟩ = some (.int .u16 x.f2) := (blk_cell HX.out 2).trans rfl; have hx3 : w2.cell? ⟨gx, 3, none⟩ = some (.slice B3 x.f3.length d3) := (blk_cell HX.out 3).trans rfl)
    | (go_at_call 39; refine (RightRoom_is _ p.g0 p.g1 p.g2 x B3 d3 (Kd.C_below HG3.out HB.out) HL3.out HGo.out).mono ?_; rintro e w4 ⟨rfl, hB⟩; have HB4 := Aside0.mk (below_then HB.out HB.out.size hB); clear hB))
  go_ret
  exact ⟨rfl, HB4.out⟩
set_option maxRecDepth 100000 in
set_option maxHeartbeats 2000000 in
theorem csPerson (w : World) (p : PV) (a : PA) (hsh : Short p) (x : S53) (B1 : Option Addr) (d1 : Nat) (g1 : Kd.C k50 w B1 x.f1.length x.f1) (l1 : x.f1.length ≤ d1) (hgood : ∀ y, y ∈ x.f1 → GoodW y) (pb : Nat) (hpb : w.heap[pb]? = some (.cells (pcs p a) 34 (0, 0))) :
    Calls Tryz.prog 43 #[.agg #[.string x.f0, .slice B1 x.f1.length d1], .pointer (some ⟨pb, 0, none⟩)] w fun e w' => e = .returned (.bool (personB p.g0 p.g1 p.g2 x)) ∧ Below w.heap.size w w' := by
  have HP := Aside0.mk hpb
  have HSh := Aside0.mk hsh
  have HGo := Aside0.mk hgood
  have HG1 := Aside0.mk g1
  have HL1 := Aside0.mk l1
  clear hpb hsh hgood g1 l1
  have hut := Tryz.underlying53
  have hup := Tryz.underlying34
  have hug := Tryz.underlying23
  go_enter Tryz.func43, Tryz.ntmps43
  go_wp2_with (first
    | ((with_reducible refine gate_dst (N := 2) rfl ?_); refine box_event ?hg (N := 2) ?hd (cs := #[.string x.f0, .slice B1 x.f1.length d1]) (t := 53) ?hr ?_; (case hd => rfl); (case hg => rfl); (case hr => first | (go_simp; done) | (go_simp; rfl)); intro gx hgx w2 hbox hB; have HB := Aside0.mk hB; have HX := Aside0.mk hbox; have HP2 := Aside0.mk (blk_then HP.out hB); clear hbox hB hgx; have hp1 : w2.cell? ⟨pb, 1, none⟩ = some (.int .i64 p.g0) := (blk_cell HP2.out 1).trans rfl; have hp2 : w2.cell? ⟨pb, 2, none⟩ = some (.int .i64 p.g1) := (blk_cell HP2.out 2).trans rfl; have hp3 : w2.cell? ⟨pb, 3, none⟩ = some (.int .i64 p.g2) := (blk_cell HP2.out 3).trans rfl; have hx0 : w2.cell? ⟨gx, 0, none⟩ = some (.string x.f0) := (blk_cell HX.out 0).trans rfl; have hx1 : w2.cell? ⟨gx, 1, none⟩ = some (.slice B1 x.f1.length d1) := (blk_cell HX.out 1).trans rfl)
    | (go_at_call 44; refine (RightPerson_is _ p.g0 p.g1 p.g2 x B1 d1 (Kd.C_below HG1.out HB.out) HL1.out HGo.out).mono ?_; rintro e w4 ⟨rfl, hB⟩; have HB4 := Aside0.mk (below_then HB.out HB.out.size hB); clear hB))
  go_ret
  exact ⟨rfl, HB4.out⟩
set_option maxRecDepth 100000 in
set_option maxHeartbeats 2000000 in
theorem csClass (w : World) (p : PV) (a : PA) (hsh : Short p) (x : S58) (B3 : Option Addr) (d3 : Nat) (B4 : Option Addr) (d4 : Nat) (B5 : Option Addr) (d5 : Nat) (g3 : Kd.C (Kd.int .i64) w B3 x.f3.length x.f3) (l3 : x.f3.length ≤ d3) (g4 : Kd.C k117 w B4 x.f4.length x.f4) (l4 : x.f4.length ≤ d4) (g5 : Kd.C k120 w B5 x.f5.length x.f5) (l5 : x.f5.length ≤ d5) (hgood : ∀ y, y ∈ x.f4 → GoodV y.f0) (pb : Nat) (hpb : w.heap[pb]? = some (.cells (pcs p a) 34 (0, 0))) :
    Calls Tryz.prog 47 #[.agg #[.string x.f0, .int .i64 x.f1, .int .u16 x.f2, .slice B3 x.f3.length d3, .slice B4 x.f4.length d4, .slice B5 x.f5.length d5, .int .i64 x.f6], .pointer (some ⟨pb, 0, none⟩)] w fun e w' => e = .returned (.bool (classB p.g0 p.g1 p.g2 (p.rooms.length : Int) (p.persons.length : Int) (p.classes.length : Int) x)) ∧ Below w.heap.size w w' := by
  have HP := Aside0.mk hpb
  have HSh := Aside0.mk hsh
  have HGo := Aside0.mk hgood
  have HG3 := Aside0.mk g3
  have HL3 := Aside0.mk l3
  have HG4 := Aside0.mk g4
  have HL4 := Aside0.mk l4
  have HG5 := Aside0.mk g5
  have HL5 := Aside0.mk l5
  clear hpb hsh hgood g3 l3 g4 l4 g5 l5
  have hut := Tryz.underlying58
  have hup := Tryz.underlying34
  have hug := Tryz.underlying23
  go_enter Tryz.func47, Tryz.ntmps47
  go_wp2_with (first
    | ((with_reducible refine gate_dst (N := 2) rfl ?_); refine box_event ?hg (N := 2) ?hd (cs := #[.string x.f0, .int .i64 x.f1, .int .u16 x.f2, .slice B3 x.f3.length d3, .slice B4 x.f4.length d4, .slice B5 x.f5.length d5, .int .i64 x.f6]) (t := 58) ?hr ?_; (case hd => rfl); (case hg => rfl); (case hr => first | (go_simp; done) | (go_simp; rfl)); intro gx hgx w2 hbox hB; have HB := Aside0.mk hB; have HX := Aside0.mk hbox; have HP2 := Aside0.mk (blk_then HP.out hB); clear hbox hB hgx; have hp1 : w2.cell? ⟨pb, 1, none⟩ = some (.int .i64 p.g0) := (blk_cell HP2.out 1).trans rfl; have hp2 : w2.cell? ⟨pb, 2, none⟩ = some (.int .i64 p.g1) := (blk_cell HP2.out 2).trans rfl; have hp3 : w2.cell? ⟨pb, 3, none⟩ = some (.int .i64 p.g2) := (blk_cell HP2.out 3).trans rfl; have hp4 : w2.cell? ⟨pb, 4, none⟩ = some (.slice a.A4 p.rooms.length a.c4) := (blk_cell HP2.out 4).trans rfl; have hp6 : w2.cell? ⟨pb, 6, none⟩ = some (.slice a.A6 p.persons.length a.c6) := (blk_cell HP2.out 6).trans rfl; have hp7 : w2.cell? ⟨pb, 7, none⟩ = some (.slice a.A7 p.classes.length a.c7) := (blk_cell HP2.out 7).trans rfl; have hx0 : w2.cell? ⟨gx, 0, none⟩ = some (.string x.f0) := (blk_cell HX.out 0).trans rfl; have hx1 : w2.cell? ⟨gx, 1, none⟩ = some (.int .i64 x.f1) := (blk_cell HX.out 1).trans rfl; have hx2 : w2.cell? ⟨gx, 2, none⟩ = some (.int .u16 x.f2) := (blk_cell HX.out 2).trans rfl; have hx3 : w2.cell? ⟨gx, 3, none⟩ = some (.slice B3 x.f3.length d3) := (blk_cell HX.out 3).trans rfl; have hx4 : w2.cell? ⟨gx, 4, none⟩ = some (.slice B4 x.f4.length d4) := (blk_cell HX.out 4).trans rfl; have hx5 : w2.cell? ⟨gx, 5, none⟩ = some (.slice B5 x.f5.length d5) := (blk_cell HX.out 5).trans rfl; have hx6 : w2.cell? ⟨gx, 6, none⟩ = some (.int .i64 x.f6) := (blk_cell HX.out 6).trans rfl)
    | (go_at_call 48; refine (RightClass_is _ p.g0 p.g1 p.g2 (p.rooms.length : Int) (p.persons.length : Int) (p.classes.length : Int) x B3 d3 B4 d4 B5 d5 (Kd.C_below HG3.out HB.out) HL3.out (Kd.C_below HG4.out HB.out) (Kd.C_below HG5.out HB.out) (by have := HSh.out.1; omega) HGo.out).mono ?_; rintro e w4 ⟨rfl, hB⟩; have HB4 := Aside0.mk (below_then HB.out HB.out.size hB); clear hB))
  go_ret
  exact ⟨rfl, HB4.out⟩
set_option maxRecDepth 100000 in
set_option maxHeartbeats 2000000 in
theorem csCourse (w : World) (p : PV) (a : PA) (hsh : Short p) (x : S61) (B1 : Option Addr) (d1 : Nat) (g1 : Kd.C k63 w B1 x.f1.length x.f1) (l1 : x.f1.length ≤ d1) (hgood : True) (pb : Nat) (hpb : w.heap[pb]? = some (.cells (pcs p a) 34 (0, 0))) :
    Calls Tryz.prog 51 #[.agg #[.string x.f0, .slice B1 x.f1.length d1], .pointer (some ⟨pb, 0, none⟩)] w fun e w' => e = .returned (.bool (courseB (p.classes.length : Int) x)) ∧ Below w.heap.size w w' := by
  have HP := Aside0.mk hpb
  have HSh := Aside0.mk hsh
  have HGo := Aside0.mk hgood
  have HG1 := Aside0.mk g1
  have HL1 := Aside0.mk l1
  clear hpb hsh hgood g1 l1
  have hut := Tryz.underlying61
  have hup := Tryz.underlying34
  have hug := Tryz.underlying23
  go_enter Tryz.func51, Tryz.ntmps51
  go_wp2_with (first
    | ((with_reducible refine gate_dst (N := 2) rfl ?_); refine box_event ?hg (N := 2) ?hd (cs := #[.string x.f0, .slice B1 x.f1.length d1]) (t := 61) ?hr ?_; (case hd => rfl); (case hg => rfl); (case hr => first | (go_simp; done) | (go_simp; rfl)); intro gx hgx w2 hbox hB; have HB := Aside0.mk hB; have HX := Aside0.mk hbox; have HP2 := Aside0.mk (blk_then HP.out hB); clear hbox hB hgx; have hp7 : w2.cell? ⟨pb, 7, none⟩ = some (.slice a.A7 p.classes.length a.c7) := (blk_cell HP2.out 7).trans rfl; have hx0 : w2.cell? ⟨gx, 0, none⟩ = some (.string x.f0) := (blk_cell HX.out 0).trans rfl; have hx1 : w2.cell? ⟨gx, 1, none⟩ = some (.slice B1 x.f1.length d1) := (blk_cell HX.out 1).trans rfl)
    | (go_at_call 52; refine (RightCourse_is _ (p.classes.length : Int) x B1 d1 (Kd.C_below HG1.out HB.out) (by have := HSh.out.2.2.2.1; omega)).mono ?_; rintro e w4 ⟨rfl, hB⟩; have HB4 := Aside0.mk (below_then HB.out HB.out.size hB); clear hB))
  go_ret
  exact ⟨rfl, HB4.out⟩
set_option maxRecDepth 100000 in
set_option maxHeartbeats 2000000 in
theorem csStudent (w : World) (p : PV) (a : PA) (hsh : Short p) (x : S66) (B1 : Option Addr) (d1 : Nat) (g1 : Kd.C (Kd.int .i64) w B1 x.f1.length x.f1) (l1 : x.f1.length ≤ d1) (hgood : True) (pb : Nat) (hpb : w.heap[pb]? = some (.cells (pcs p a) 34 (0, 0))) :
    Calls Tryz.prog 55 #[.agg #[.string x.f0, .slice B1 x.f1.length d1], .pointer (some ⟨pb, 0, none⟩)] w fun e w' => e = .returned (.bool (studentB (p.courses.length : Int) x)) ∧ Below w.heap.size w w' := by
  have HP := Aside0.mk hpb
  have HSh := Aside0.mk hsh
  have HGo := Aside0.mk hgood
  have HG1 := Aside0.mk g1
  have HL1 := Aside0.mk l1
  clear hpb hsh hgood g1 l1
  have hut := Tryz.underlying66
  have hup := Tryz.underlying34
  have hug := Tryz.underlying23
  go_enter Tryz.func55, Tryz.ntmps55
  go_wp2_with (first
    | ((with_reducible refine gate_dst (N := 2) rfl ?_); refine box_event ?hg (N := 2) ?hd (cs := #[.string x.f0, .slice B1 x.f1.length d1]) (t := 66) ?hr ?_; (case hd => rfl); (case hg => rfl); (case hr => first | (go_simp; done) | (go_simp; rfl)); intro gx hgx w2 hbox hB; have HB := Aside0.mk hB; have HX := Aside0.mk hbox; have HP2 := Aside0.mk (blk_then HP.out hB); clear hbox hB hgx; have hp0 : w2.cell? ⟨pb, 0, none⟩ = some (.string p.nm) := (blk_cell HP2.out 0).trans rfl; have hp1 : w2.cell? ⟨pb, 1, none⟩ = some (.int .i64 p.g0) := (blk_cell HP2.out 1).trans rfl; have hp2 : w2.cell? ⟨pb, 2, none⟩ = some (.int .i64 p.g1) := (blk_cell HP2.out 2).trans rfl; have hp3 : w2.cell? ⟨pb, 3, none⟩ = some (.int .i64 p.g2) := (blk_cell HP2.out 3).trans rfl; have hp4 : w2.cell? ⟨pb, 4, none⟩ = some (.slice a.A4 p.rooms.length a.c4) := (blk_cell HP2.out 4).trans rfl; have hp5 : w2.cell? ⟨pb, 5, none⟩ = some (.slice a.A5 p.walk.length a.c5) := (blk_cell HP2.out 5).trans rfl; have hp6 : w2.cell? ⟨pb, 6, none⟩ = some (.slice a.A6 p.persons.length a.c6) := (blk_cell HP2.out 6).trans rfl; have hp7 : w2.cell? ⟨pb, 7, none⟩ = some (.slice a.A7 p.classes.length a.c7) := (blk_cell HP2.out 7).trans rfl; have hp8 : w2.cell? ⟨pb, 8, none⟩ = some (.slice a.A8 p.courses.length a.c8) := (blk_cell HP2.out 8).trans rfl; have hp9 : w2.cell? ⟨pb, 9, none⟩ = some (.slice a.A9 p.students.length a.c9) := (blk_cell HP2.out 9).trans rfl; have hp10 : w2.cell? ⟨pb, 10, none⟩ = some (.slice a.A10 p.rules.length a.c10) := (blk_cell HP2.out 10).trans rfl; have hp11 : w2.cell? ⟨pb, 11, none⟩ = some (.int .i64 p.w0) := (blk_cell HP2.out 11).trans rfl; have hp12 : w2.cell? ⟨pb, 12, none⟩ = some (.int .i64 p.w1) := (blk_cell HP2.out 12).trans rfl; have hp13 : w2.cell? ⟨pb, 13, none⟩ = some (.int .i64 p.w2) := (blk_cell HP2.out 13).trans rfl; have hp14 : w2.cell? ⟨pb, 14, none⟩ = some (.int .i64 p.w3) := (blk_cell HP2.out 14).trans rfl; have hx0 : w2.cell? ⟨gx, 0, none⟩ = some (.string x.f0) := (blk_cell HX.out 0).trans rfl; have hx1 : w2.cell? ⟨gx, 1, none⟩ = some (.slice B1 x.f1.length d1) := (blk_cell HX.out 1).trans rfl)
    | (go_at_call 56; refine (student_is _ p a x B1 d1 (Kd.C_below HG1.out HB.out) HL1.out (by have := HSh.out.2.2.2.2.1; omega)).mono ?_; rintro e w4 ⟨rfl, hB⟩; have HB4 := Aside0.mk (below_then HB.out HB.out.size hB); clear hB))
  go_ret
  exact ⟨rfl, HB4.out⟩
set_option maxRecDepth 100000 in
set_option maxHeartbeats 2000000 in
theorem csRule (w : World) (p : PV) (a : PA) (hsh : Short p) (x : S69) (B1 : Option Addr) (d1 : Nat) (g1 : Kd.C (Kd.int .i64) w B1 x.f1.length x.f1) (l1 : x.f1.length ≤ d1) (hgood : True) (pb : Nat) (hpb : w.heap[pb]? = some (.cells (pcs p a) 34 (0, 0))) :
    Calls Tryz.prog 58 #[.agg #[.int .i64 x.f0, .slice B1 x.f1.length d1, .int .i64 x.f2, .int .i64 x.f3, .bool x.f4, .int .i64 x.f5], .pointer (some ⟨pb, 0, none⟩)] w fun e w' => e = .returned (.bool (ruleB (p.classes.length : Int) x)) ∧ Below w.heap.size w w' := by
  have HP := Aside0.mk hpb
  have HSh := Aside0.mk hsh
  have HGo := Aside0.mk hgood
  have HG1 := Aside0.mk g1
  have HL1 := Aside0.mk l1
  clear hpb hsh hgood g1 l1
  have hut := Tryz.underlying69
  have hup := Tryz.underlying34
  have hug := Tryz.underlying23
  go_enter Tryz.func58, Tryz.ntmps58
  go_wp2_with (first
    | ((with_reducible refine gate_dst (N := 2) rfl ?_); refine box_event ?hg (N := 2) ?hd (cs := #[.int .i64 x.f0, .slice B1 x.f1.length d1, .int .i64 x.f2, .int .i64 x.f3, .bool x.f4, .int .i64 x.f5]) (t := 69) ?hr ?_; (case hd => rfl); (case hg => rfl); (case hr => first | (go_simp; done) | (go_simp; rfl)); intro gx hgx w2 hbox hB; have HB := Aside0.mk hB; have HX := Aside0.mk hbox; have HP2 := Aside0.mk (blk_then HP.out hB); clear hbox hB hgx; have hp7 : w2.cell? ⟨pb, 7, none⟩ = some (.slice a.A7 p.classes.length a.c7) := (blk_cell HP2.out 7).trans rfl; have hx0 : w2.cell? ⟨gx, 0, none⟩ = some (.int .i64 x.f0) := (blk_cell HX.out 0).trans rfl; have hx1 : w2.cell? ⟨gx, 1, none⟩ = some (.slice B1 x.f1.length d1) := (blk_cell HX.out 1).trans rfl; have hx2 : w2.cell? ⟨gx, 2, none⟩ = some (.int .i64 x.f2) := (blk_cell HX.out 2).trans rfl; have hx3 : w2.cell? ⟨gx, 3, none⟩ = some (.int .i64 x.f3) := (blk_cell HX.out 3).trans rfl; have hx4 : w2.cell? ⟨gx, 4, none⟩ = some (.bool x.f4) := (blk_cell HX.out 4).trans rfl; have hx5 : w2.cell? ⟨gx, 5, none⟩ = some (.int .i64 x.f5) := (blk_cell HX.out 5).trans rfl)
    | (go_at_call 33; refine (Rule_is _ (p.classes.length : Int) x.f0 B1 x.f1.length d1 x.f1 x.f2 x.f3 x.f4 x.f5 rfl (Kd.C_below HG1.out HB.out) HL1.out (by have := HSh.out.2.2.2.1; omega)).mono ?_; rintro e w4 ⟨rfl, hB⟩; have HB4 := Aside0.mk (below_then HB.out HB.out.size hB); clear hB))
  go_ret
  exact ⟨rfl, HB4.out⟩
end Go.Proofs.YtineikfhfmiidaaGreat.Pm
namespace Go.Proofs.YtineikfhfmiidaaGreat.Pm
open Go Go.RowKit Go.Proofs.YtineikfhfmiidaaGreat.Gp Go.Proofs.YtineikfhfmiidaaGreat.Mw Go.Proofs.YtineikfhfmiidaaGreatW.PrintWords Go.Proofs.YtineikfhfmiidaaGreatW.PrintLast Go.Proofs.YtineikfhfmiidaaGreatW.PrintMore
set_option linter.unusedVariables false
set_option linter.unusedSimpArgs false
/-- The first bad place, where things have no names. -/
def badRAt {α : Type} (t : α → Bool) (most : Nat) (l : List α) (i : Nat) : Bool :=
  match l[i]? with
  | none => false
  | some x => decide (i = most) || !t x
def badR {α : Type} (t : α → Bool) (most : Nat) (l : List α) : Option Nat := (List.range l.length).find? (badRAt t most l)
theorem badR_some {α : Type} {t : α → Bool} {most : Nat} {l : List α} {i : Nat} (hi : i < l.length) (hb : badRAt t most l i = true) (hn : ∀ j, j < i → badRAt t most l j = false) : badR t most l = some i := by
  unfold badR
  rw [List.find?_range_eq_some]
  exact ⟨hb, List.mem_range.2 hi, fun j hj => by rw [hn j hj]; rfl⟩
theorem badR_none {α : Type} {t : α → Bool} {most : Nat} {l : List α} (hn : ∀ j, j < l.length → badRAt t most l j = false) : badR t most l = none := by
  unfold badR
  rw [List.find?_eq_none]
  intro j hj
  rw [hn j (List.mem_range.1 hj)]
  exact Bool.false_ne_true
theorem badRAt_eq {α : Type} {t : α → Bool} {most : Nat} {l : List α} {i : Nat} {x : α} (hx : l[i]? = some x) : badRAt t most l i = (decide (i = most) || !t x) := by
  unfold badRAt
  rw [hx]
theorem badRAt_max {α : Type} {t : α → Bool} {most : Nat} {l : List α} {i : Nat} {x : α} (hx : l[i]? = some x) (h : i = most) : badRAt t most l i = true := by
  rw [badRAt_eq hx, decide_eq_true h]
  rfl
theorem badRAt_not {α : Type} {t : α → Bool} {most : Nat} {l : List α} {i : Nat} {x : α} (hx : l[i]? = some x) (h : t x = false) : badRAt t most l i = true := by
  rw [badRAt_eq hx, h]
  simp
theorem badRAt_no {α : Type} {t : α → Bool} {most : Nat} {l : List α} {i : Nat} {x : α} (hx : l[i]? = some x) (h0 : ¬ i = most) (h : t x = true) : badRAt t most l i = false := by
  rw [badRAt_eq hx, h, decide_eq_false h0]
  rfl
section
variable {α κ : Type} [DecidableEq κ] {t : α → Bool} {f : α → κ} {most : Nat} {l : List α} {i : Nat} {x : α}
theorem badAt_max (hx : l[i]? = some x) (h : i = most) : badAt t f most l i = true := by
  rw [badAt_eq hx, decide_eq_true h]
  rfl
theorem badAt_not (hx : l[i]? = some x) (h : t x = false) : badAt t f most l i = true := by
  rw [badAt_eq hx, h]
  simp
theorem badAt_mem (hx : l[i]? = some x) (h : f x ∈ (l.take i).map f) : badAt t f most l i = true := by
  rw [badAt_eq hx, decide_eq_true h]
  simp
theorem badAt_no (hx : l[i]? = some x) (h0 : ¬ i = most) (h : t x = true) (hm : f x ∉ (l.take i).map f) : badAt t f most l i = false := by
  rw [badAt_eq hx, h, decide_eq_false h0, decide_eq_false hm]
  rfl
end
theorem run_equalIn_func {P : Program} {t : TypeId} {ps rs : Array TypeId} {vd : Bool} (h : P.underlying t = some (.func ps rs vd)) (d : Nat) (fn : Fn) (fi ca : Array Value) (w : World) : (Op.equalIn (d + 1) t (.func fn fi ca) .nilFunc).run P w = .ok false w := by
  unfold Op.equalIn
  simp [run_underlying, h]
theorem run_equalIn_nofunc {P : Program} {t : TypeId} {ps rs : Array TypeId} {vd : Bool} (h : P.underlying t = some (.func ps rs vd)) (d : Nat) (w : World) : (Op.equalIn (d + 1) t .nilFunc .nilFunc).run P w = .ok true w := by
  unfold Op.equalIn
  simp [run_underlying, h]
theorem run_neq_func {P : Program} {t : TypeId} {ps rs : Array TypeId} {vd : Bool} (h : P.underlying t = some (.func ps rs vd)) (fn : Fn) (fi ca : Array Value) (w : World) : (binOp .neq t (.func fn fi ca) .nilFunc).run P w = .ok (.bool true) w := by
  simp only [binOp]
  simp [Op.equal, Op.maxDepth, run_equalIn_func h 9999]
theorem run_neq_nofunc {P : Program} {t : TypeId} {ps rs : Array TypeId} {vd : Bool} (h : P.underlying t = some (.func ps rs vd)) (w : World) : (binOp .neq t .nilFunc .nilFunc).run P w = .ok (.bool false) w := by
  simp only [binOp]
  simp [Op.equal, Op.maxDepth, run_equalIn_nofunc h 9999]
def badN (r : Option Nat) : Int := ((r.getD 0 : Nat) : Int)
noncomputable def MSB : MK Tryz.prog ByteArray Bool := strBool Tryz.prog 9 4 151 Tryz.underlying9 Tryz.underlying4 Tryz.underlying151 zeroB
theorem name_ok {s : ByteArray} (h : nameB s = true) : MSB.ok s := by
  unfold nameB at h
  rw [Bool.and_eq_true, decide_eq_true_iff, decide_eq_true_iff] at h
  have h2 : s.size ≤ maxLen := by unfold maxLen; omega
  exact h2
theorem room_name {g0 g1 g2 : Int} {x : S47} (h : roomB g0 g1 g2 x = true) : nameB x.f0 = true := by
  unfold roomB at h
  simp only [Bool.and_eq_true] at h
  exact h.2.1
theorem person_name {g0 g1 g2 : Int} {x : S53} (h : personB g0 g1 g2 x = true) : nameB x.f0 = true := by
  unfold personB at h
  simp only [Bool.and_eq_true] at h
  exact h.2.1
theorem class_name {g0 g1 g2 nr np nc : Int} {x : S58} (h : classB g0 g1 g2 nr np nc x = true) : nameB x.f0 = true := by
  unfold classB at h
  simp only [Bool.and_eq_true] at h
  exact h.2.1
theorem course_name {n : Int} {x : S61} (h : courseB n x = true) : nameB x.f0 = true := by
  unfold courseB at h
  simp only [Bool.and_eq_true] at h
  exact h.1
theorem student_name {n : Int} {x : S66} (h : studentB n x = true) : nameB x.f0 = true := by
  unfold studentB at h
  simp only [Bool.and_eq_true] at h
  exact h.1
set_option maxRecDepth 100000 in
set_option maxHeartbeats 2000000 in
theorem badRoom (w : World) (p : PV) (a : PA) (hsh : Short p) (A : Option Addr) (m c : Nat) (xs : List S47) (hm : xs.length = m) (hC : Kd.C k47 w A xs.length xs) (mo : Int) (most : Nat) (hmo : mo = (most : Int)) (hmost : most ≤ 1000) (hgood : ∀ x, x ∈ xs → ∀ y, y ∈ x.f3 → GoodW y) (pb : Nat) (hpb : w.heap[pb]? = some (.cells (pcs p a) 34 (0, 0))) :
    Calls Tryz.prog 36 #[.slice A m c, .int .i64 mo, .func (.func 37) #[] #[], .func (.func 38) #[] #[.pointer (some ⟨pb, 0, none⟩)]] w fun e w' => e = .returned (.tuple #[.int .i64 (badN (badI (roomB p.g0 p.g1 p.g2) (fun x : S47 => x.f0) most xs)), .bool (badI (roomB p.g0 p.g1 p.g2) (fun x : S47 => x.f0) most xs).isSome]) ∧ Below w.heap.size w w' := by
  subst hmo
  have HSh := Aside0.mk hsh
  have HM := Aside0.mk hm
  have HC := Aside0.mk hC
  have HMo := Aside0.mk hmost
  have HGo := Aside0.mk hgood
  have HPB := Aside0.mk hpb
  have hmx := Kd.C_max hC
  rw [hm] at hmx
  clear hsh hm hC hmost hgood hpb
  have hut := Tryz.underlying47
  have hnf := @run_neq_func Tryz.prog 83 _ _ _ Tryz.underlying83
  have hmm := @run_makeMap Tryz.prog
  go_enter Tryz.func36, Tryz.ntmps36
  go_wp2
  go_loopw [16] (fun v16 wr => ∃ (i : Nat) (f : ByteArray → Option Bool) (s : Nat), i ≤ m ∧ v16 = .int .i64 i ∧ Aside0 (∀ j, j < i → badAt (roomB p.g0 p.g1 p.g2) (fun x : S47 => x.f0) most xs j = false) ∧ Aside0 (i ≤ most) ∧ Aside0 (Seen (fun x : S47 => x.f0) xs i f) ∧ Aside0 (s ≤ i) ∧ Aside0 (MIs MSB wr w.heap.size s f) ∧ Aside0 (Below w.heap.size w wr)) (fun v16 _ => m - (intOf v16).toNat)
  case atStart => exact ⟨0, fun _ => none, 0, Nat.zero_le _, rfl, ⟨fun j hj => by omega⟩, ⟨Nat.zero_le _⟩, ⟨Seen.start _ _⟩, ⟨Nat.le_refl _⟩, ⟨MIs.made MSB w⟩, ⟨below_alloc (Below.refl _ _) _⟩⟩
  case round =>
    clear hmm
    obtain ⟨i, f, s, hi, rfl, HN, HIM, HF, HS, HMp, HB⟩ := hrel
    by_cases him : i < m
    · have him2 : (i : Int) < (m : Int) := by omega
      obtain ⟨x, hx⟩ : ∃ x, xs[i]? = some x := ⟨_, List.getElem?_eq_getElem (by have := HM.out; omega)⟩
      obtain ⟨ad, B3, d3, rfl, hq0, hq1, hq2, hq3, ⟨g3, l3⟩⟩ := elRoom HC.out hx
      have hk0 := pw_cell_below HB.out hq0
      have hk1 := pw_cell_below HB.out hq1
      have hk2 := pw_cell_below HB.out hq2
      have hk3 := pw_cell_below HB.out hq3
      have HX := Aside0.mk hx
      have HG3 := Aside0.mk g3
      have HL3 := Aside0.mk l3
      clear hx g3 l3 hq0 hq1 hq2 hq3
      by_cases h0 : i = most
      · have hz : ((i : Int) == (most : Int)) = true := by rw [beq_iff_eq]; omega
        have HR : Aside0 (badI (roomB p.g0 p.g1 p.g2) (fun x : S47 => x.f0) most xs = some i) := ⟨badI_some (by have := HM.out; omega) (badAt_max HX.out h0) HN.out⟩
        clear h0
        go_wp2
        refine bodyPost_ret (results_tmp2 rfl _ _ _) rfl ?_
        rw [HR.out]
        exact ⟨rfl, below_alloc HB.out _⟩
      have hz : ((i : Int) == (most : Int)) = false := by rw [beq_eq_false_iff_ne]; omega
      have H0 := Aside0.mk h0
      clear h0
      cases hr : (roomB p.g0 p.g1 p.g2) x with
      | false =>
        have ER := Aside0.mk hr
        clear hr
        have HR : Aside0 (badI (roomB p.g0 p.g1 p.g2) (fun x : S47 => x.f0) most xs = some i) := ⟨badI_some (by have := HM.out; omega) (badAt_not HX.out ER.out) HN.out⟩
        go_wp2_with (first
          | (go_at_call 38; refine (csRoom _ p a HSh.out x B3 d3 (Kd.C_below HG3.out (below_alloc HB.out _)) HL3.out (HGo.out x (List.mem_of_getElem? HX.out)) pb (blk_alloc (blk_then HPB.out HB.out) _)).mono ?_; rintro e w4 ⟨rfl, hB⟩; rw [ER.out]; have HNw := Aside0.mk (blk_then (blk_new wr _) hB); have HM4 := Aside0.mk ((HMp.out.alloc _).below hB (HMp.out.alloc _).lt); have HB4 := Aside0.mk (below_then (below_alloc HB.out _) (below_alloc HB.out _).size hB); clear hB; have hn0 := (blk_cell HNw.out 0).trans rfl; have hn1 := (blk_cell HNw.out 1).trans rfl; have hn2 := (blk_cell HNw.out 2).trans rfl; have hn3 := (blk_cell HNw.out 3).trans rfl))
        refine bodyPost_ret (results_tmp2 rfl _ _ _) rfl ?_
        rw [HR.out]
        exact ⟨rfl, HB4.out⟩
      | true =>
        have ER := Aside0.mk hr
        clear hr
        have HOK : Aside0 (MSB.ok x.f0) := ⟨name_ok (room_name ER.out)⟩
        by_cases h2 : x.f0 ∈ (xs.take i).map (fun x : S47 => x.f0)
        · have HL : Aside0 (∀ u, MIs MSB u w.heap.size s f → (Instr.lookup 151 (.map (some w.heap.size)) (.string x.f0) false).run Tryz.prog u = .ok (.bool true) u) := ⟨fun u hu => by have h3 := hu.run_look x.f0 HOK.out; rw [HF.out x.f0, if_pos h2] at h3; exact h3⟩
          have HR : Aside0 (badI (roomB p.g0 p.g1 p.g2) (fun x : S47 => x.f0) most xs = some i) := ⟨badI_some (by have := HM.out; omega) (badAt_mem HX.out h2) HN.out⟩
          clear h2
          go_wp2_with (first
            | (go_at_call 38; refine (csRoom _ p a HSh.out x B3 d3 (Kd.C_below HG3.out (below_alloc HB.out _)) HL3.out (HGo.out x (List.mem_of_getElem? HX.out)) pb (blk_alloc (blk_then HPB.out HB.out) _)).mono ?_; rintro e w4 ⟨rfl, hB⟩; rw [ER.out]; have HNw := Aside0.mk (blk_then (blk_new wr _) hB); have HM4 := Aside0.mk ((HMp.out.alloc _).below hB (HMp.out.alloc _).lt); have HB4 := Aside0.mk (below_then (below_alloc HB.out _) (below_alloc HB.out _).size hB); clear hB; have hn0 := (blk_cell HNw.out 0).trans rfl; have hn1 := (blk_cell HNw.out 1).trans rfl; have hn2 := (blk_cell HNw.out 2).trans rfl; have hn3 := (blk_cell HNw.out 3).trans rfl)
            | (go_at_call 37; refine (problem_roomName.calls _ _ _ _ _ _ x.f0 _ (Kd.C_below HG3.out HB4.out) HL3.out rfl).mono ?_; rintro e w5 ⟨rfl, hB⟩; have HNw2 := Aside0.mk (blk_then HNw.out hB); have HM42 := Aside0.mk (HM4.out.below hB HM4.out.lt); have HB42 := Aside0.mk (below_then HB4.out HB4.out.size hB); clear hB HNw HM4 HB4 hn0 hn1 hn2 hn3; have HNw := HNw2; have HM4 := HM42; have HB4 := HB42; clear HNw2 HM42 HB42; have hn0 := (blk_cell HNw.out 0).trans rfl; have hn1 := (blk_cell HNw.out 1).trans rfl; have hn2 := (blk_cell HNw.out 2).trans rfl; have hn3 := (blk_cell HNw.out 3).trans rfl; have hlook : (Instr.lookup 151 (.map (some w.heap.size)) (.string x.f0) false).run Tryz.prog w5 = .ok (.bool true) w5 := HL.out _ HM4.out))
          refine bodyPost_ret (results_tmp2 rfl _ _ _) rfl ?_
          rw [HR.out]
          exact ⟨rfl, HB4.out⟩
        · have HL : Aside0 (∀ u, MIs MSB u w.heap.size s f → (Instr.lookup 151 (.map (some w.heap.size)) (.string x.f0) false).run Tryz.prog u = .ok (.bool false) u) := ⟨fun u hu => by have h3 := hu.run_look x.f0 HOK.out; rw [HF.out x.f0, if_neg h2] at h3; exact h3⟩
          have HNone : Aside0 (f x.f0 = none) := ⟨by rw [HF.out x.f0, if_neg h2]⟩
          have HF2 := Aside0.mk (HF.out.step HX.out)
          have HA : Aside0 (badAt (roomB p.g0 p.g1 p.g2) (fun x : S47 => x.f0) most xs i = false) := ⟨badAt_no HX.out H0.out ER.out h2⟩
          clear h2
          go_wp2_with (first
            | (go_at_call 38; refine (csRoom _ p a HSh.out x B3 d3 (Kd.C_below HG3.out (below_alloc HB.out _)) HL3.out (HGo.out x (List.mem_of_getElem? HX.out)) pb (blk_alloc (blk_then HPB.out HB.out) _)).mono ?_; rintro e w4 ⟨rfl, hB⟩; rw [ER.out]; have HNw := Aside0.mk (blk_then (blk_new wr _) hB); have HM4 := Aside0.mk ((HMp.out.alloc _).below hB (HMp.out.alloc _).lt); have HB4 := Aside0.mk (below_then (below_alloc HB.out _) (below_alloc HB.out _).size hB); clear hB; have hn0 := (blk_cell HNw.out 0).trans rfl; have hn1 := (blk_cell HNw.out 1).trans rfl; have hn2 := (blk_cell HNw.out 2).trans rfl; have hn3 := (blk_cell HNw.out 3).trans rfl)
            | (go_at_call 37; refine (problem_roomName.calls _ _ _ _ _ _ x.f0 _ (Kd.C_below HG3.out HB4.out) HL3.out rfl).mono ?_; rintro e w5 ⟨rfl, hB⟩; have HNw2 := Aside0.mk (blk_then HNw.out hB); have HM42 := Aside0.mk (HM4.out.below hB HM4.out.lt); have HB42 := Aside0.mk (below_then HB4.out HB4.out.size hB); clear hB HNw HM4 HB4 hn0 hn1 hn2 hn3; have HNw := HNw2; have HM4 := HM42; have HB4 := HB42; clear HNw2 HM42 HB42; have hn0 := (blk_cell HNw.out 0).trans rfl; have hn1 := (blk_cell HNw.out 1).trans rfl; have hn2 := (blk_cell HNw.out 2).trans rfl; have hn3 := (blk_cell HNw.out 3).trans rfl; have hlook : (Instr.lookup 151 (.map (some w.heap.size)) (.string x.f0) false).run Tryz.prog w5 = .ok (.bool false) w5 := HL.out _ HM4.out)
            | (at_mapUpdate; refine wl_put HM4.out rfl _ _ _ rfl rfl (by have := HS.out; have := HMo.out; unfold maxLen; omega) x.f0 HOK.out rfl true trivial rfl ?_; intro w6 hM6 hg6; have HM6 := Aside0.mk hM6; have HG6 := Aside0.mk hg6; clear hM6 hg6))
          exact ⟨⟨i + 1, _, s + 1, by omega, by go_num, ⟨fun j hj => by
            by_cases e : j = i
            · rw [e]; exact HA.out
            · exact HN.out j (by omega)⟩, ⟨by have := HIM.out; have := H0.out; omega⟩, HF2, ⟨by have := HS.out; omega⟩, ⟨by have h6 := HM6.out; rw [HNone.out] at h6; exact h6⟩, ⟨HB4.out.grown HG6.out HB4.out.size (fun q e => by cases e; exact Nat.le_refl _)⟩⟩, by simp [intOf]; omega⟩
    · obtain rfl : i = m := by omega
      have HR : Aside0 (badI (roomB p.g0 p.g1 p.g2) (fun x : S47 => x.f0) most xs = none) := ⟨badI_none (fun j hj => HN.out j (by have := HM.out; omega))⟩
      go_wp2
      refine bodyPost_ret (results_tmp2 rfl _ _ _) rfl ?_
      rw [HR.out]
      exact ⟨rfl, HB.out⟩
set_option maxRecDepth 100000 in
set_option maxHeartbeats 2000000 in
theorem badPerson (w : World) (p : PV) (a : PA) (hsh : Short p) (A : Option Addr) (m c : Nat) (xs : List S53) (hm : xs.length = m) (hC : Kd.C k53 w A xs.length xs) (mo : Int) (most : Nat) (hmo : mo = (most : Int)) (hmost : most ≤ 1000) (hgood : ∀ x, x ∈ xs → ∀ y, y ∈ x.f1 → GoodW y) (pb : Nat) (hpb : w.heap[pb]? = some (.cells (pcs p a) 34 (0, 0))) :
    Calls Tryz.prog 41 #[.slice A m c, .int .i64 mo, .func (.func 42) #[] #[], .func (.func 43) #[] #[.pointer (some ⟨pb, 0, none⟩)]] w fun e w' => e = .returned (.tuple #[.int .i64 (badN (badI (personB p.g0 p.g1 p.g2) (fun x : S53 => x.f0) most xs)), .bool (badI (personB p.g0 p.g1 p.g2) (fun x : S53 => x.f0) most xs).isSome]) ∧ Below w.heap.size w w' := by
  subst hmo
  have HSh := Aside0.mk hsh
  have HM := Aside0.mk hm
  have HC := Aside0.mk hC
  have HMo := Aside0.mk hmost
  have HGo := Aside0.mk hgood
  have HPB := Aside0.mk hpb
  have hmx := Kd.C_max hC
  rw [hm] at hmx
  clear hsh hm hC hmost hgood hpb
  have hut := Tryz.underlying53
  have hnf := @run_neq_func Tryz.prog 88 _ _ _ Tryz.underlying88
  have hmm := @run_makeMap Tryz.prog
  go_enter Tryz.func41, Tryz.ntmps41
  go_wp2
  go_loopw [16] (fun v16 wr => ∃ (i : Nat) (f : ByteArray → Option Bool) (s : Nat), i ≤ m ∧ v16 = .int .i64 i ∧ Aside0 (∀ j, j < i → badAt (personB p.g0 p.g1 p.g2) (fun x : S53 => x.f0) most xs j = false) ∧ Aside0 (i ≤ most) ∧ Aside0 (Seen (fun x : S53 => x.f0) xs i f) ∧ Aside0 (s ≤ i) ∧ Aside0 (MIs MSB wr w.heap.size s f) ∧ Aside0 (Below w.heap.size w wr)) (fun v16 _ => m - (intOf v16).toNat)
  case atStart => exact ⟨0, fun _ => none, 0, Nat.zero_le _, rfl, ⟨fun j hj => by omega⟩, ⟨Nat.zero_le _⟩, ⟨Seen.start _ _⟩, ⟨Nat.le_refl _⟩, ⟨MIs.made MSB w⟩, ⟨below_alloc (Below.refl _ _) _⟩⟩
  case round =>
    clear hmm
    obtain ⟨i, f, s, hi, rfl, HN, HIM, HF, HS, HMp, HB⟩ := hrel
    by_cases him : i < m
    · have him2 : (i : Int) < (m : Int) := by omega
      obtain ⟨x, hx⟩ : ∃ x, xs[i]? = some x := ⟨_, List.getElem?_eq_getElem (by have := HM.out; omega)⟩
      obtain ⟨ad, B1, d1, rfl, hq0, hq1, ⟨g1, l1⟩⟩ := elPerson HC.out hx
      have hk0 := pw_cell_below HB.out hq0
      have hk1 := pw_cell_below HB.out hq1
      have HX := Aside0.mk hx
      have HG1 := Aside0.mk g1
      have HL1 := Aside0.mk l1
      clear hx g1 l1 hq0 hq1
      by_cases h0 : i = most
      · have hz : ((i : Int) == (most : Int)) = true := by rw [beq_iff_eq]; omega
        have HR : Aside0 (badI (personB p.g0 p.g1 p.g2) (fun x : S53 => x.f0) most xs = some i) := ⟨badI_some (by have := HM.out; omega) (badAt_max HX.out h0) HN.out⟩
        clear h0
        go_wp2
        refine bodyPost_ret (results_tmp2 rfl _ _ _) rfl ?_
        rw [HR.out]
        exact ⟨rfl, below_alloc HB.out _⟩
      have hz : ((i : Int) == (most : Int)) = false := by rw [beq_eq_false_iff_ne]; omega
      have H0 := Aside0.mk h0
      clear h0
      cases hr : (personB p.g0 p.g1 p.g2) x with
      | false =>
        have ER := Aside0.mk hr
        clear hr
        have HR : Aside0 (badI (personB p.g0 p.g1 p.g2) (fun x : S53 => x.f0) most xs = some i) := ⟨badI_some (by have := HM.out; omega) (badAt_not HX.out ER.out) HN.out⟩
        go_wp2_with (first
          | (go_at_call 43; refine (csPerson _ p a HSh.out x B1 d1 (Kd.C_below HG1.out (below_alloc HB.out _)) HL1.out (HGo.out x (List.mem_of_getElem? HX.out)) pb (blk_alloc (blk_then HPB.out HB.out) _)).mono ?_; rintro e w4 ⟨rfl, hB⟩; rw [ER.out]; have HNw := Aside0.mk (blk_then (blk_new wr _) hB); have HM4 := Aside0.mk ((HMp.out.alloc _).below hB (HMp.out.alloc _).lt); have HB4 := Aside0.mk (below_then (below_alloc HB.out _) (below_alloc HB.out _).size hB); clear hB; have hn0 := (blk_cell HNw.out 0).trans rfl; have hn1 := (blk_cell HNw.out 1).trans rfl))
        refine bodyPost_ret (results_tmp2 rfl _ _ _) rfl ?_
        rw [HR.out]
        exact ⟨rfl, HB4.out⟩
      | true =>
        have ER := Aside0.mk hr
        clear hr
        have HOK : Aside0 (MSB.ok x.f0) := ⟨name_ok (person_name ER.out)⟩
        by_cases h2 : x.f0 ∈ (xs.take i).map (fun x : S53 => x.f0)
        · have HL : Aside0 (∀ u, MIs MSB u w.heap.size s f → (Instr.lookup 151 (.map (some w.heap.size)) (.string x.f0) false).run Tryz.prog u = .ok (.bool true) u) := ⟨fun u hu => by have h3 := hu.run_look x.f0 HOK.out; rw [HF.out x.f0, if_pos h2] at h3; exact h3⟩
          have HR : Aside0 (badI (personB p.g0 p.g1 p.g2) (fun x : S53 => x.f0) most xs = some i) := ⟨badI_some (by have := HM.out; omega) (badAt_mem HX.out h2) HN.out⟩
          clear h2
          go_wp2_with (first
            | (go_at_call 43; refine (csPerson _ p a HSh.out x B1 d1 (Kd.C_below HG1.out (below_alloc HB.out _)) HL1.out (HGo.out x (List.mem_of_getElem? HX.out)) pb (blk_alloc (blk_then HPB.out HB.out) _)).mono ?_; rintro e w4 ⟨rfl, hB⟩; rw [ER.out]; have HNw := Aside0.mk (blk_then (blk_new wr _) hB); have HM4 := Aside0.mk ((HMp.out.alloc _).below hB (HMp.out.alloc _).lt); have HB4 := Aside0.mk (below_then (below_alloc HB.out _) (below_alloc HB.out _).size hB); clear hB; have hn0 := (blk_cell HNw.out 0).trans rfl; have hn1 := (blk_cell HNw.out 1).trans rfl)
            | (go_at_call 42; refine (problem_personName.calls _ _ _ _ x.f0 _ (Kd.C_below HG1.out HB4.out) HL1.out rfl).mono ?_; rintro e w5 ⟨rfl, hB⟩; have HNw2 := Aside0.mk (blk_then HNw.out hB); have HM42 := Aside0.mk (HM4.out.below hB HM4.out.lt); have HB42 := Aside0.mk (below_then HB4.out HB4.out.size hB); clear hB HNw HM4 HB4 hn0 hn1; have HNw := HNw2; have HM4 := HM42; have HB4 := HB42; clear HNw2 HM42 HB42; have hn0 := (blk_cell HNw.out 0).trans rfl; have hn1 := (blk_cell HNw.out 1).trans rfl; have hlook : (Instr.lookup 151 (.map (some w.heap.size)) (.string x.f0) false).run Tryz.prog w5 = .ok (.bool true) w5 := HL.out _ HM4.out))
          refine bodyPost_ret (results_tmp2 rfl _ _ _) rfl ?_
          rw [HR.out]
          exact ⟨rfl, HB4.out⟩
        · have HL : Aside0 (∀ u, MIs MSB u w.heap.size s f → (Instr.lookup 151 (.map (some w.heap.size)) (.string x.f0) false).run Tryz.prog u = .ok (.bool false) u) := ⟨fun u hu => by have h3 := hu.run_look x.f0 HOK.out; rw [HF.out x.f0, if_neg h2] at h3; exact h3⟩
          have HNone : Aside0 (f x.f0 = none) := ⟨by rw [HF.out x.f0, if_neg h2]⟩
          have HF2 := Aside0.mk (HF.out.step HX.out)
          have HA : Aside0 (badAt (personB p.g0 p.g1 p.g2) (fun x : S53 => x.f0) most xs i = false) := ⟨badAt_no HX.out H0.out ER.out h2⟩
          clear h2
          go_wp2_with (first
            | (go_at_call 43; refine (csPerson _ p a HSh.out x B1 d1 (Kd.C_below HG1.out (below_alloc HB.out _)) HL1.out (HGo.out x (List.mem_of_getElem? HX.out)) pb (blk_alloc (blk_then HPB.out HB.out) _)).mono ?_; rintro e w4 ⟨rfl, hB⟩; rw [ER.out]; have HNw := Aside0.mk (blk_then (blk_new wr _) hB); have HM4 := Aside0.mk ((HMp.out.alloc _).below hB (HMp.out.alloc _).lt); have HB4 := Aside0.mk (below_then (below_alloc HB.out _) (below_alloc HB.out _).size hB); clear hB; have hn0 := (blk_cell HNw.out 0).trans rfl; have hn1 := (blk_cell HNw.out 1).trans rfl)
            | (go_at_call 42; refine (problem_personName.calls _ _ _ _ x.f0 _ (Kd.C_below HG1.out HB4.out) HL1.out rfl).mono ?_; rintro e w5 ⟨rfl, hB⟩; have HNw2 := Aside0.mk (blk_then HNw.out hB); have HM42 := Aside0.mk (HM4.out.below hB HM4.out.lt); have HB42 := Aside0.mk (below_then HB4.out HB4.out.size hB); clear hB HNw HM4 HB4 hn0 hn1; have HNw := HNw2; have HM4 := HM42; have HB4 := HB42; clear HNw2 HM42 HB42; have hn0 := (blk_cell HNw.out 0).trans rfl; have hn1 := (blk_cell HNw.out 1).trans rfl; have hlook : (Instr.lookup 151 (.map (some w.heap.size)) (.string x.f0) false).run Tryz.prog w5 = .ok (.bool false) w5 := HL.out _ HM4.out)
            | (at_mapUpdate; refine wl_put HM4.out rfl _ _ _ rfl rfl (by have := HS.out; have := HMo.out; unfold maxLen; omega) x.f0 HOK.out rfl true trivial rfl ?_; intro w6 hM6 hg6; have HM6 := Aside0.mk hM6; have HG6 := Aside0.mk hg6; clear hM6 hg6))
          exact ⟨⟨i + 1, _, s + 1, by omega, by go_num, ⟨fun j hj => by
            by_cases e : j = i
            · rw [e]; exact HA.out
            · exact HN.out j (by omega)⟩, ⟨by have := HIM.out; have := H0.out; omega⟩, HF2, ⟨by have := HS.out; omega⟩, ⟨by have h6 := HM6.out; rw [HNone.out] at h6; exact h6⟩, ⟨HB4.out.grown HG6.out HB4.out.size (fun q e => by cases e; exact Nat.le_refl _)⟩⟩, by simp [intOf]; omega⟩
    · obtain rfl : i = m := by omega
      have HR : Aside0 (badI (personB p.g0 p.g1 p.g2) (fun x : S53 => x.f0) most xs = none) := ⟨badI_none (fun j hj => HN.out j (by have := HM.out; omega))⟩
      go_wp2
      refine bodyPost_ret (results_tmp2 rfl _ _ _) rfl ?_
      rw [HR.out]
      exact ⟨rfl, HB.out⟩
end Go.Proofs.YtineikfhfmiidaaGreat.Pm
namespace Go.Proofs.YtineikfhfmiidaaGreat.Pm
open Go Go.RowKit Go.Proofs.YtineikfhfmiidaaGreat.Gp Go.Proofs.YtineikfhfmiidaaGreat.Mw Go.Proofs.YtineikfhfmiidaaGreatW.PrintWords Go.Proofs.YtineikfhfmiidaaGreatW.PrintLast Go.Proofs.YtineikfhfmiidaaGreatW.PrintMore
set_option linter.unusedVariables false
set_option linter.unusedSimpArgs false
set_option maxRecDepth 100000 in
set_option maxHeartbeats 2000000 in
theorem problem_studentName.calls (a0_0 : ByteArray) (A0_1 : Option Addr) (c0_1 : Nat) (l0_1 : List Int) (r : ByteArray) (w : World) (hr0_1 : Kd.C (Kd.int .i64) w A0_1 l0_1.length l0_1) (hc0_1 : l0_1.length ≤ c0_1) (h : some a0_0 = some r) :
    Calls Tryz.prog 54 #[.agg #[.string a0_0, .slice A0_1 l0_1.length c0_1]] w fun e w' => e = .returned (.string r) ∧ Below w.heap.size w w' := by
  have hu := Tryz.underlying66
  clear hr0_1 hc0_1
  obtain rfl := Option.some.inj h
  go_enter Tryz.func54, Tryz.ntmps54
  go_wp2_with (first | ((with_reducible refine gate_dst (N := 1) rfl ?_); refine box_event ?hg (N := 1) ?hd (cs := #[.string a0_0, .slice A0_1 l0_1.length c0_1]) (t := 66) ?hr ?_; (case hd => rfl); (case hg => rfl); (case hr => first | (go_simp; done) | (go_simp; rfl)); intro gb hg w2 hbox hb; have HB := Aside0.mk hb; have BK := Aside0.mk hbox; clear hb hbox hg; have hc0 : w2.cell? ⟨gb, 0, none⟩ = some (.string a0_0) := (blk_cell BK.out 0).trans rfl; have hc1 : w2.cell? ⟨gb, 1, none⟩ = some (.slice A0_1 l0_1.length c0_1) := (blk_cell BK.out 1).trans rfl))
  go_ret
  exact ⟨rfl, HB.out⟩
set_option maxRecDepth 100000 in
set_option maxHeartbeats 2000000 in
theorem badClass (w : World) (p : PV) (a : PA) (hsh : Short p) (A : Option Addr) (m c : Nat) (xs : List S58) (hm : xs.length = m) (hC : Kd.C k58 w A xs.length xs) (mo : Int) (most : Nat) (hmo : mo = (most : Int)) (hmost : most ≤ 1000) (hgood : ∀ x, x ∈ xs → ∀ y, y ∈ x.f4 → GoodV y.f0) (pb : Nat) (hpb : w.heap[pb]? = some (.cells (pcs p a) 34 (0, 0))) :
    Calls Tryz.prog 45 #[.slice A m c, .int .i64 mo, .func (.func 46) #[] #[], .func (.func 47) #[] #[.pointer (some ⟨pb, 0, none⟩)]] w fun e w' => e = .returned (.tuple #[.int .i64 (badN (badI (classB p.g0 p.g1 p.g2 (p.rooms.length : Int) (p.persons.length : Int) (p.classes.length : Int)) (fun x : S58 => x.f0) most xs)), .bool (badI (classB p.g0 p.g1 p.g2 (p.rooms.length : Int) (p.persons.length : Int) (p.classes.length : Int)) (fun x : S58 => x.f0) most xs).isSome]) ∧ Below w.heap.size w w' := by
  subst hmo
  have HSh := Aside0.mk hsh
  have HM := Aside0.mk hm
  have HC := Aside0.mk hC
  have HMo := Aside0.mk hmost
  have HGo := Aside0.mk hgood
  have HPB := Aside0.mk hpb
  have hmx := Kd.C_max hC
  rw [hm] at hmx
  clear hsh hm hC hmost hgood hpb
  have hut := Tryz.underlying58
  have hnf := @run_neq_func Tryz.prog 92 _ _ _ Tryz.underlying92
  have hmm := @run_makeMap Tryz.prog
  go_enter Tryz.func45, Tryz.ntmps45
  go_wp2
  go_loopw [16] (fun v16 wr => ∃ (i : Nat) (f : ByteArray → Option Bool) (s : Nat), i ≤ m ∧ v16 = .int .i64 i ∧ Aside0 (∀ j, j < i → badAt (classB p.g0 p.g1 p.g2 (p.rooms.length : Int) (p.persons.length : Int) (p.classes.length : Int)) (fun x : S58 => x.f0) most xs j = false) ∧ Aside0 (i ≤ most) ∧ Aside0 (Seen (fun x : S58 => x.f0) xs i f) ∧ Aside0 (s ≤ i) ∧ Aside0 (MIs MSB wr w.heap.size s f) ∧ Aside0 (Below w.heap.size w wr)) (fun v16 _ => m - (intOf v16).toNat)
  case atStart => exact ⟨0, fun _ => none, 0, Nat.zero_le _, rfl, ⟨fun j hj => by omega⟩, ⟨Nat.zero_le _⟩, ⟨Seen.start _ _⟩, ⟨Nat.le_refl _⟩, ⟨MIs.made MSB w⟩, ⟨below_alloc (Below.refl _ _) _⟩⟩
  case round =>
    clear hmm
    obtain ⟨i, f, s, hi, rfl, HN, HIM, HF, HS, HMp, HB⟩ := hrel
    by_cases him : i < m
    · have him2 : (i : Int) < (m : Int) := by omega
      obtain ⟨x, hx⟩ : ∃ x, xs[i]? = some x := ⟨_, List.getElem?_eq_getElem (by have := HM.out; omega)⟩
      obtain ⟨ad, B3, d3, B4, d4, B5, d5, rfl, hq0, hq1, hq2, hq3, hq4, hq5, hq6, ⟨g3, l3⟩, ⟨g4, l4⟩, ⟨g5, l5⟩⟩ := elClass HC.out hx
      have hk0 := pw_cell_below HB.out hq0
      have hk1 := pw_cell_below HB.out hq1
      have hk2 := pw_cell_below HB.out hq2
      have hk3 := pw_cell_below HB.out hq3
      have hk4 := pw_cell_below HB.out hq4
      have hk5 := pw_cell_below HB.out hq5
      have hk6 := pw_cell_below HB.out hq6
      have HX := Aside0.mk hx
      have HG3 := Aside0.mk g3
      have HL3 := Aside0.mk l3
      have HG4 := Aside0.mk g4
      have HL4 := Aside0.mk l4
      have HG5 := Aside0.mk g5
      have HL5 := Aside0.mk l5
      clear hx g3 l3 g4 l4 g5 l5 hq0 hq1 hq2 hq3 hq4 hq5 hq6
      by_cases h0 : i = most
      · have hz : ((i : Int) == (most : Int)) = true := by rw [beq_iff_eq]; omega
        have HR : Aside0 (badI (classB p.g0 p.g1 p.g2 (p.rooms.length : Int) (p.persons.length : Int) (p.classes.length : Int)) (fun x : S58 => x.f0) most xs = some i) := ⟨badI_some (by have := HM.out; omega) (badAt_max HX.out h0) HN.out⟩
        clear h0
        go_wp2
        refine bodyPost_ret (results_tmp2 rfl _ _ _) rfl ?_
        rw [HR.out]
        exact ⟨rfl, below_alloc HB.out _⟩
      have hz : ((i : Int) == (most : Int)) = false := by rw [beq_eq_false_iff_ne]; omega
      have H0 := Aside0.mk h0
      clear h0
      cases hr : (classB p.g0 p.g1 p.g2 (p.rooms.length : Int) (p.persons.length : Int) (p.classes.length : Int)) x with
      | false =>
        have ER := Aside0.mk hr
        clear hr
        have HR : Aside0 (badI (classB p.g0 p.g1 p.g2 (p.rooms.length : Int) (p.persons.length : Int) (p.classes.length : Int)) (fun x : S58 => x.f0) most xs = some i) := ⟨badI_some (by have := HM.out; omega) (badAt_not HX.out ER.out) HN.out⟩
        go_wp2_with (first
          | (go_at_call 47; refine (csClass _ p a HSh.out x B3 d3 B4 d4 B5 d5 (Kd.C_below HG3.out (below_alloc HB.out _)) HL3.out (Kd.C_below HG4.out (below_alloc HB.out _)) HL4.out (Kd.C_below HG5.out (below_alloc HB.out _)) HL5.out (HGo.out x (List.mem_of_getElem? HX.out)) pb (blk_alloc (blk_then HPB.out HB.out) _)).mono ?_; rintro e w4 ⟨rfl, hB⟩; rw [ER.out]; have HNw := Aside0.mk (blk_then (blk_new wr _) hB); have HM4 := Aside0.mk ((HMp.out.alloc _).below hB (HMp.out.alloc _).lt); have HB4 := Aside0.mk (below_then (below_alloc HB.out _) (below_alloc HB.out _).size hB); clear hB; have hn0 := (blk_cell HNw.out 0).trans rfl; have hn1 := (blk_cell HNw.out 1).trans rfl; have hn2 := (blk_cell HNw.out 2).trans rfl; have hn3 := (blk_cell HNw.out 3).trans rfl; have hn4 := (blk_cell HNw.out 4).trans rfl; have hn5 := (blk_cell HNw.out 5).trans rfl; have hn6 := (blk_cell HNw.out 6).trans rfl))
        refine bodyPost_ret (results_tmp2 rfl _ _ _) rfl ?_
        rw [HR.out]
        exact ⟨rfl, HB4.out⟩
      | true =>
        have ER := Aside0.mk hr
        clear hr
        have HOK : Aside0 (MSB.ok x.f0) := ⟨name_ok (class_name ER.out)⟩
        by_cases h2 : x.f0 ∈ (xs.take i).map (fun x : S58 => x.f0)
        · have HL : Aside0 (∀ u, MIs MSB u w.heap.size s f → (Instr.lookup 151 (.map (some w.heap.size)) (.string x.f0) false).run Tryz.prog u = .ok (.bool true) u) := ⟨fun u hu => by have h3 := hu.run_look x.f0 HOK.out; rw [HF.out x.f0, if_pos h2] at h3; exact h3⟩
          have HR : Aside0 (badI (classB p.g0 p.g1 p.g2 (p.rooms.length : Int) (p.persons.length : Int) (p.classes.length : Int)) (fun x : S58 => x.f0) most xs = some i) := ⟨badI_some (by have := HM.out; omega) (badAt_mem HX.out h2) HN.out⟩
          clear h2
          go_wp2_with (first
            | (go_at_call 47; refine (csClass _ p a HSh.out x B3 d3 B4 d4 B5 d5 (Kd.C_below HG3.out (below_alloc HB.out _)) HL3.out (Kd.C_below HG4.out (below_alloc HB.out _)) HL4.out (Kd.C_below HG5.out (below_alloc HB.out _)) HL5.out (HGo.out x (List.mem_of_getElem? HX.out)) pb (blk_alloc (blk_then HPB.out HB.out) _)).mono ?_; rintro e w4 ⟨rfl, hB⟩; rw [ER.out]; have HNw := Aside0.mk (blk_then (blk_new wr _) hB); have HM4 := Aside0.mk ((HMp.out.alloc _).below hB (HMp.out.alloc _).lt); have HB4 := Aside0.mk (below_then (below_alloc HB.out _) (below_alloc HB.out _).size hB); clear hB; have hn0 := (blk_cell HNw.out 0).trans rfl; have hn1 := (blk_cell HNw.out 1).trans rfl; have hn2 := (blk_cell HNw.out 2).trans rfl; have hn3 := (blk_cell HNw.out 3).trans rfl; have hn4 := (blk_cell HNw.out 4).trans rfl; have hn5 := (blk_cell HNw.out 5).trans rfl; have hn6 := (blk_cell HNw.out 6).trans rfl)
            | (go_at_call 46; refine (problem_className.calls _ _ _ _ _ _ _ _ _ _ _ _ _ x.f0 _ (Kd.C_below HG3.out HB4.out) HL3.out (Kd.C_below HG4.out HB4.out) HL4.out (Kd.C_below HG5.out HB4.out) HL5.out rfl).mono ?_; rintro e w5 ⟨rfl, hB⟩; have HNw2 := Aside0.mk (blk_then HNw.out hB); have HM42 := Aside0.mk (HM4.out.below hB HM4.out.lt); have HB42 := Aside0.mk (below_then HB4.out HB4.out.size hB); clear hB HNw HM4 HB4 hn0 hn1 hn2 hn3 hn4 hn5 hn6; have HNw := HNw2; have HM4 := HM42; have HB4 := HB42; clear HNw2 HM42 HB42; have hn0 := (blk_cell HNw.out 0).trans rfl; have hn1 := (blk_cell HNw.out 1).trans rfl; have hn2 := (blk_cell HNw.out 2).trans rfl; have hn3 := (blk_cell HNw.out 3).trans rfl; have hn4 := (blk_cell HNw.out 4).trans rfl; have hn5 := (blk_cell HNw.out 5).trans rfl; have hn6 := (blk_cell HNw.out 6).trans rfl; have hlook : (Instr.lookup 151 (.map (some w.heap.size)) (.string x.f0) false).run Tryz.prog w5 = .ok (.bool true) w5 := HL.out _ HM4.out))
          refine bodyPost_ret (results_tmp2 rfl _ _ _) rfl ?_
          rw [HR.out]
          exact ⟨rfl, HB4.out⟩
        · have HL : Aside0 (∀ u, MIs MSB u w.heap.size s f → (Instr.lookup 151 (.map (some w.heap.size)) (.string x.f0) false).run Tryz.prog u = .ok (.bool false) u) := ⟨fun u hu => by have h3 := hu.run_look x.f0 HOK.out; rw [HF.out x.f0, if_neg h2] at h3; exact h3⟩
          have HNone : Aside0 (f x.f0 = none) := ⟨by rw [HF.out x.f0, if_neg h2]⟩
          have HF2 := Aside0.mk (HF.out.step HX.out)
          have HA : Aside0 (badAt (classB p.g0 p.g1 p.g2 (p.rooms.length : Int) (p.persons.length : Int) (p.classes.length : Int)) (fun x : S58 => x.f0) most xs i = false) := ⟨badAt_no HX.out H0.out ER.out h2⟩
          clear h2
          go_wp2_with (first
            | (go_at_call 47; refine (csClass _ p a HSh.out x B3 d3 B4 d4 B5 d5 (Kd.C_below HG3.out (below_alloc HB.out _)) HL3.out (Kd.C_below HG4.out (below_alloc HB.out _)) HL4.out (Kd.C_below HG5.out (below_alloc HB.out _)) HL5.out (HGo.out x (List.mem_of_getElem? HX.out)) pb (blk_alloc (blk_then HPB.out HB.out) _)).mono ?_; rintro e w4 ⟨rfl, hB⟩; rw [ER.out]; have HNw := Aside0.mk (blk_then (blk_new wr _) hB); have HM4 := Aside0.mk ((HMp.out.alloc _).below hB (HMp.out.alloc _).lt); have HB4 := Aside0.mk (below_then (below_alloc HB.out _) (below_alloc HB.out _).size hB); clear hB; have hn0 := (blk_cell HNw.out 0).trans rfl; have hn1 := (blk_cell HNw.out 1).trans rfl; have hn2 := (blk_cell HNw.out 2).trans rfl; have hn3 := (blk_cell HNw.out 3).trans rfl; have hn4 := (blk_cell HNw.out 4).trans rfl; have hn5 := (blk_cell HNw.out 5).trans rfl; have hn6 := (blk_cell HNw.out 6).trans rfl)
            | (go_at_call 46; refine (problem_className.calls _ _ _ _ _ _ _ _ _ _ _ _ _ x.f0 _ (Kd.C_below HG3.out HB4.out) HL3.out (Kd.C_below HG4.out HB4.out) HL4.out (Kd.C_below HG5.out HB4.out) HL5.out rfl).mono ?_; rintro e w5 ⟨rfl, hB⟩; have HNw2 := Aside0.mk (blk_then HNw.out hB); have HM42 := Aside0.mk (HM4.out.below hB HM4.out.lt); have HB42 := Aside0.mk (below_then HB4.out HB4.out.size hB); clear hB HNw HM4 HB4 hn0 hn1 hn2 hn3 hn4 hn5 hn6; have HNw := HNw2; have HM4 := HM42; have HB4 := HB42; clear HNw2 HM42 HB42; have hn0 := (blk_cell HNw.out 0).trans rfl; have hn1 := (blk_cell HNw.out 1).trans rfl; have hn2 := (blk_cell HNw.out 2).trans rfl; have hn3 := (blk_cell HNw.out 3).trans rfl; have hn4 := (blk_cell HNw.out 4).trans rfl; have hn5 := (blk_cell HNw.out 5).trans rfl; have hn6 := (blk_cell HNw.out 6).trans rfl; have hlook : (Instr.lookup 151 (.map (some w.heap.size)) (.string x.f0) false).run Tryz.prog w5 = .ok (.bool false) w5 := HL.out _ HM4.out)
            | (at_mapUpdate; refine wl_put HM4.out rfl _ _ _ rfl rfl (by have := HS.out; have := HMo.out; unfold maxLen; omega) x.f0 HOK.out rfl true trivial rfl ?_; intro w6 hM6 hg6; have HM6 := Aside0.mk hM6; have HG6 := Aside0.mk hg6; clear hM6 hg6))
          exact ⟨⟨i + 1, _, s + 1, by omega, by go_num, ⟨fun j hj => by
            by_cases e : j = i
            · rw [e]; exact HA.out
            · exact HN.out j (by omega)⟩, ⟨by have := HIM.out; have := H0.out; omega⟩, HF2, ⟨by have := HS.out; omega⟩, ⟨by have h6 := HM6.out; rw [HNone.out] at h6; exact h6⟩, ⟨HB4.out.grown HG6.out HB4.out.size (fun q e => by cases e; exact Nat.le_refl _)⟩⟩, by simp [intOf]; omega⟩
    · obtain rfl : i = m := by omega
      have HR : Aside0 (badI (classB p.g0 p.g1 p.g2 (p.rooms.length : Int) (p.persons.length : Int) (p.classes.length : Int)) (fun x : S58 => x.f0) most xs = none) := ⟨badI_none (fun j hj => HN.out j (by have := HM.out; omega))⟩
      go_wp2
      refine bodyPost_ret (results_tmp2 rfl _ _ _) rfl ?_
      rw [HR.out]
      exact ⟨rfl, HB.out⟩
set_option maxRecDepth 100000 in
set_option maxHeartbeats 2000000 in
theorem badCourse (w : World) (p : PV) (a : PA) (hsh : Short p) (A : Option Addr) (m c : Nat) (xs : List S61) (hm : xs.length = m) (hC : Kd.C k61 w A xs.length xs) (mo : Int) (most : Nat) (hmo : mo = (most : Int)) (hmost : most ≤ 1000) (hgood : ∀ x, x ∈ xs → True) (pb : Nat) (hpb : w.heap[pb]? = some (.cells (pcs p a) 34 (0, 0))) :
    Calls Tryz.prog 49 #[.slice A m c, .int .i64 mo, .func (.func 50) #[] #[], .func (.func 51) #[] #[.pointer (some ⟨pb, 0, none⟩)]] w fun e w' => e = .returned (.tuple #[.int .i64 (badN (badI (courseB (p.classes.length : Int)) (fun x : S61 => x.f0) most xs)), .bool (badI (courseB (p.classes.length : Int)) (fun x : S61 => x.f0) most xs).isSome]) ∧ Below w.heap.size w w' := by
  subst hmo
  have HSh := Aside0.mk hsh
  have HM := Aside0.mk hm
  have HC := Aside0.mk hC
  have HMo := Aside0.mk hmost
  have HGo := Aside0.mk hgood
  have HPB := Aside0.mk hpb
  have hmx := Kd.C_max hC
  rw [hm] at hmx
  clear hsh hm hC hmost hgood hpb
  have hut := Tryz.underlying61
  have hnf := @run_neq_func Tryz.prog 96 _ _ _ Tryz.underlying96
  have hmm := @run_makeMap Tryz.prog
  go_enter Tryz.func49, Tryz.ntmps49
  go_wp2
  go_loopw [16] (fun v16 wr => ∃ (i : Nat) (f : ByteArray → Option Bool) (s : Nat), i ≤ m ∧ v16 = .int .i64 i ∧ Aside0 (∀ j, j < i → badAt (courseB (p.classes.length : Int)) (fun x : S61 => x.f0) most xs j = false) ∧ Aside0 (i ≤ most) ∧ Aside0 (Seen (fun x : S61 => x.f0) xs i f) ∧ Aside0 (s ≤ i) ∧ Aside0 (MIs MSB wr w.heap.size s f) ∧ Aside0 (Below w.heap.size w wr)) (fun v16 _ => m - (intOf v16).toNat)
  case atStart => exact ⟨0, fun _ => none, 0, Nat.zero_le _, rfl, ⟨fun j hj => by omega⟩, ⟨Nat.zero_le _⟩, ⟨Seen.start _ _⟩, ⟨Nat.le_refl _⟩, ⟨MIs.made MSB w⟩, ⟨below_alloc (Below.refl _ _) _⟩⟩
  case round =>
    clear hmm
    obtain ⟨i, f, s, hi, rfl, HN, HIM, HF, HS, HMp, HB⟩ := hrel
    by_cases him : i < m
    · have him2 : (i : Int) < (m : Int) := by omega
      obtain ⟨x, hx⟩ : ∃ x, xs[i]? = some x := ⟨_, List.getElem?_eq_getElem (by have := HM.out; omega)⟩
      obtain ⟨ad, B1, d1, rfl, hq0, hq1, ⟨g1, l1⟩⟩ := elCourse HC.out hx
      have hk0 := pw_cell_below HB.out hq0
      have hk1 := pw_cell_below HB.out hq1
      have HX := Aside0.mk hx
      have HG1 := Aside0.mk g1
      have HL1 := Aside0.mk l1
      clear hx g1 l1 hq0 hq1
      by_cases h0 : i = most
      · have hz : ((i : Int) == (most : Int)) = true := by rw [beq_iff_eq]; omega
        have HR : Aside0 (badI (courseB (p.classes.length : Int)) (fun x : S61 => x.f0) most xs = some i) := ⟨badI_some (by have := HM.out; omega) (badAt_max HX.out h0) HN.out⟩
        clear h0
        go_wp2
        refine bodyPost_ret (results_tmp2 rfl _ _ _) rfl ?_
        rw [HR.out]
        exact ⟨rfl, below_alloc HB.out _⟩
      have hz : ((i : Int) == (most : Int)) = false := by rw [beq_eq_false_iff_ne]; omega
      have H0 := Aside0.mk h0
      clear h0
      cases hr : (courseB (p.classes.length : Int)) x with
      | false =>
        have ER := Aside0.mk hr
        clear hr
        have HR : Aside0 (badI (courseB (p.classes.length : Int)) (fun x : S61 => x.f0) most xs = some i) := ⟨badI_some (by have := HM.out; omega) (badAt_not HX.out ER.out) HN.out⟩
        go_wp2_with (first
          | (go_at_call 51; refine (csCourse _ p a HSh.out x B1 d1 (Kd.C_below HG1.out (below_alloc HB.out _)) HL1.out (HGo.out x (List.mem_of_getElem? HX.out)) pb (blk_alloc (blk_then HPB.out HB.out) _)).mono ?_; rintro e w4 ⟨rfl, hB⟩; rw [ER.out]; have HNw := Aside0.mk (blk_then (blk_new wr _) hB); have HM4 := Aside0.mk ((HMp.out.alloc _).below hB (HMp.out.alloc _).lt); have HB4 := Aside0.mk (below_then (below_alloc HB.out _) (below_alloc HB.out _).size hB); clear hB; have hn0 := (blk_cell HNw.out 0).trans rfl; have hn1 := (blk_cell HNw.out 1).trans rfl))
        refine bodyPost_ret (results_tmp2 rfl _ _ _) rfl ?_
        rw [HR.out]
        exact ⟨rfl, HB4.out⟩
      | true =>
        have ER := Aside0.mk hr
        clear hr
        have HOK : Aside0 (MSB.ok x.f0) := ⟨name_ok (course_name ER.out)⟩
        by_cases h2 : x.f0 ∈ (xs.take i).map (fun x : S61 => x.f0)
        · have HL : Aside0 (∀ u, MIs MSB u w.heap.size s f → (Instr.lookup 151 (.map (some w.heap.size)) (.string x.f0) false).run Tryz.prog u = .ok (.bool true) u) := ⟨fun u hu => by have h3 := hu.run_look x.f0 HOK.out; rw [HF.out x.f0, if_pos h2] at h3; exact h3⟩
          have HR : Aside0 (badI (courseB (p.classes.length : Int)) (fun x : S61 => x.f0) most xs = some i) := ⟨badI_some (by have := HM.out; omega) (badAt_mem HX.out h2) HN.out⟩
          clear h2
          go_wp2_with (first
            | (go_at_call 51; refine (csCourse _ p a HSh.out x B1 d1 (Kd.C_below HG1.out (below_alloc HB.out _)) HL1.out (HGo.out x (List.mem_of_getElem? HX.out)) pb (blk_alloc (blk_then HPB.out HB.out) _)).mono ?_; rintro e w4 ⟨rfl, hB⟩; rw [ER.out]; have HNw := Aside0.mk (blk_then (blk_new wr _) hB); have HM4 := Aside0.mk ((HMp.out.alloc _).below hB (HMp.out.alloc _).lt); have HB4 := Aside0.mk (below_then (below_alloc HB.out _) (below_alloc HB.out _).size hB); clear hB; have hn0 := (blk_cell HNw.out 0).trans rfl; have hn1 := (blk_cell HNw.out 1).trans rfl)
            | (go_at_call 50; refine (problem_courseName.calls _ _ _ _ x.f0 _ (Kd.C_below HG1.out HB4.out) HL1.out rfl).mono ?_; rintro e w5 ⟨rfl, hB⟩; have HNw2 := Aside0.mk (blk_then HNw.out hB); have HM42 := Aside0.mk (HM4.out.below hB HM4.out.lt); have HB42 := Aside0.mk (below_then HB4.out HB4.out.size hB); clear hB HNw HM4 HB4 hn0 hn1; have HNw := HNw2; have HM4 := HM42; have HB4 := HB42; clear HNw2 HM42 HB42; have hn0 := (blk_cell HNw.out 0).trans rfl; have hn1 := (blk_cell HNw.out 1).trans rfl; have hlook : (Instr.lookup 151 (.map (some w.heap.size)) (.string x.f0) false).run Tryz.prog w5 = .ok (.bool true) w5 := HL.out _ HM4.out))
          refine bodyPost_ret (results_tmp2 rfl _ _ _) rfl ?_
          rw [HR.out]
          exact ⟨rfl, HB4.out⟩
        · have HL : Aside0 (∀ u, MIs MSB u w.heap.size s f → (Instr.lookup 151 (.map (some w.heap.size)) (.string x.f0) false).run Tryz.prog u = .ok (.bool false) u) := ⟨fun u hu => by have h3 := hu.run_look x.f0 HOK.out; rw [HF.out x.f0, if_neg h2] at h3; exact h3⟩
          have HNone : Aside0 (f x.f0 = none) := ⟨by rw [HF.out x.f0, if_neg h2]⟩
          have HF2 := Aside0.mk (HF.out.step HX.out)
          have HA : Aside0 (badAt (courseB (p.classes.length : Int)) (fun x : S61 => x.f0) most xs i = false) := ⟨badAt_no HX.out H0.out ER.out h2⟩
          clear h2
          go_wp2_with (first
            | (go_at_call 51; refine (csCourse _ p a HSh.out x B1 d1 (Kd.C_below HG1.out (below_alloc HB.out _)) HL1.out (HGo.out x (List.mem_of_getElem? HX.out)) pb (blk_alloc (blk_then HPB.out HB.out) _)).mono ?_; rintro e w4 ⟨rfl, hB⟩; rw [ER.out]; have HNw := Aside0.mk (blk_then (blk_new wr _) hB); have HM4 := Aside0.mk ((HMp.out.alloc _).below hB (HMp.out.alloc _).lt); have HB4 := Aside0.mk (below_then (below_alloc HB.out _) (below_alloc HB.out _).size hB); clear hB; have hn0 := (blk_cell HNw.out 0).trans rfl; have hn1 := (blk_cell HNw.out 1).trans rfl)
            | (go_at_call 50; refine (problem_courseName.calls _ _ _ _ x.f0 _ (Kd.C_below HG1.out HB4.out) HL1.out rfl).mono ?_; rintro e w5 ⟨rfl, hB⟩; have HNw2 := Aside0.mk (blk_then HNw.out hB); have HM42 := Aside0.mk (HM4.out.below hB HM4.out.lt); have HB42 := Aside0.mk (below_then HB4.out HB4.out.size hB); clear hB HNw HM4 HB4 hn0 hn1; have HNw := HNw2; have HM4 := HM42; have HB4 := HB42; clear HNw2 HM42 HB42; have hn0 := (blk_cell HNw.out 0).trans rfl; have hn1 := (blk_cell HNw.out 1).trans rfl; have hlook : (Instr.lookup 151 (.map (some w.heap.size)) (.string x.f0) false).run Tryz.prog w5 = .ok (.bool false) w5 := HL.out _ HM4.out)
            | (at_mapUpdate; refine wl_put HM4.out rfl _ _ _ rfl rfl (by have := HS.out; have := HMo.out; unfold maxLen; omega) x.f0 HOK.out rfl true trivial rfl ?_; intro w6 hM6 hg6; have HM6 := Aside0.mk hM6; have HG6 := Aside0.mk hg6; clear hM6 hg6))
          exact ⟨⟨i + 1, _, s + 1, by omega, by go_num, ⟨fun j hj => by
            by_cases e : j = i
            · rw [e]; exact HA.out
            · exact HN.out j (by omega)⟩, ⟨by have := HIM.out; have := H0.out; omega⟩, HF2, ⟨by have := HS.out; omega⟩, ⟨by have h6 := HM6.out; rw [HNone.out] at h6; exact h6⟩, ⟨HB4.out.grown HG6.out HB4.out.size (fun q e => by cases e; exact Nat.le_refl _)⟩⟩, by simp [intOf]; omega⟩
    · obtain rfl : i = m := by omega
      have HR : Aside0 (badI (courseB (p.classes.length : Int)) (fun x : S61 => x.f0) most xs = none) := ⟨badI_none (fun j hj => HN.out j (by have := HM.out; omega))⟩
      go_wp2
      refine bodyPost_ret (results_tmp2 rfl _ _ _) rfl ?_
      rw [HR.out]
      exact ⟨rfl, HB.out⟩
set_option maxRecDepth 100000 in
set_option maxHeartbeats 2000000 in
theorem badStudent (w : World) (p : PV) (a : PA) (hsh : Short p) (A : Option Addr) (m c : Nat) (xs : List S66) (hm : xs.length = m) (hC : Kd.C k66 w A xs.length xs) (mo : Int) (most : Nat) (hmo : mo = (most : Int)) (hmost : most ≤ 1000) (hgood : ∀ x, x ∈ xs → True) (pb : Nat) (hpb : w.heap[pb]? = some (.cells (pcs p a) 34 (0, 0))) :
    Calls Tryz.prog 53 #[.slice A m c, .int .i64 mo, .func (.func 54) #[] #[], .func (.func 55) #[] #[.pointer (some ⟨pb, 0, none⟩)]] w fun e w' => e = .returned (.tuple #[.int .i64 (badN (badI (studentB (p.courses.length : Int)) (fun x : S66 => x.f0) most xs)), .bool (badI (studentB (p.courses.length : Int)) (fun x : S66 => x.f0) most xs).isSome]) ∧ Below w.heap.size w w' := by
  subst hmo
  have HSh := Aside0.mk hsh
  have HM := Aside0.mk hm
  have HC := Aside0.mk hC
  have HMo := Aside0.mk hmost
  have HGo := Aside0.mk hgood
  have HPB := Aside0.mk hpb
  have hmx := Kd.C_max hC
  rw [hm] at hmx
  clear hsh hm hC hmost hgood hpb
  have hut := Tryz.underlying66
  have hnf := @run_neq_func Tryz.prog 100 _ _ _ Tryz.underlying100
  have hmm := @run_makeMap Tryz.prog
  go_enter Tryz.func53, Tryz.ntmps53
  go_wp2
  go_loopw [16] (fun v16 wr => ∃ (i : Nat) (f : ByteArray → Option Bool) (s : Nat), i ≤ m ∧ v16 = .int .i64 i ∧ Aside0 (∀ j, j < i → badAt (studentB (p.courses.length : Int)) (fun x : S66 => x.f0) most xs j = false) ∧ Aside0 (i ≤ most) ∧ Aside0 (Seen (fun x : S66 => x.f0) xs i f) ∧ Aside0 (s ≤ i) ∧ Aside0 (MIs MSB wr w.heap.size s f) ∧ Aside0 (Below w.heap.size w wr)) (fun v16 _ => m - (intOf v16).toNat)
  case atStart => exact ⟨0, fun _ => none, 0, Nat.zero_le _, rfl, ⟨fun j hj => by omega⟩, ⟨Nat.zero_le _⟩, ⟨Seen.start _ _⟩, ⟨Nat.le_refl _⟩, ⟨MIs.made MSB w⟩, ⟨below_alloc (Below.refl _ _) _⟩⟩
  case round =>
    clear hmm
    obtain ⟨i, f, s, hi, rfl, HN, HIM, HF, HS, HMp, HB⟩ := hrel
    by_cases him : i < m
    · have him2 : (i : Int) < (m : Int) := by omega
      obtain ⟨x, hx⟩ : ∃ x, xs[i]? = some x := ⟨_, List.getElem?_eq_getElem (by have := HM.out; omega)⟩
      obtain ⟨ad, B1, d1, rfl, hq0, hq1, ⟨g1, l1⟩⟩ := elStudent HC.out hx
      have hk0 := pw_cell_below HB.out hq0
      have hk1 := pw_cell_below HB.out hq1
      have HX := Aside0.mk hx
      have HG1 := Aside0.mk g1
      have HL1 := Aside0.mk l1
      clear hx g1 l1 hq0 hq1
      by_cases h0 : i = most
      · have hz : ((i : Int) == (most : Int)) = true := by rw [beq_iff_eq]; omega
        have HR : Aside0 (badI (studentB (p.courses.length : Int)) (fun x : S66 => x.f0) most xs = some i) := ⟨badI_some (by have := HM.out; omega) (badAt_max HX.out h0) HN.out⟩
        clear h0
        go_wp2
        refine bodyPost_ret (results_tmp2 rfl _ _ _) rfl ?_
        rw [HR.out]
        exact ⟨rfl, below_alloc HB.out _⟩
      have hz : ((i : Int) == (most : Int)) = false := by rw [beq_eq_false_iff_ne]; omega
      have H0 := Aside0.mk h0
      clear h0
      cases hr : (studentB (p.courses.length : Int)) x with
      | false =>
        have ER := Aside0.mk hr
        clear hr
        have HR : Aside0 (badI (studentB (p.courses.length : Int)) (fun x : S66 => x.f0) most xs = some i) := ⟨badI_some (by have := HM.out; omega) (badAt_not HX.out ER.out) HN.out⟩
        go_wp2_with (first
          | (go_at_call 55; refine (csStudent _ p a HSh.out x B1 d1 (Kd.C_below HG1.out (below_alloc HB.out _)) HL1.out (HGo.out x (List.mem_of_getElem? HX.out)) pb (blk_alloc (blk_then HPB.out HB.out) _)).mono ?_; rintro e w4 ⟨rfl, hB⟩; rw [ER.out]; have HNw := Aside0.mk (blk_then (blk_new wr _) hB); have HM4 := Aside0.mk ((HMp.out.alloc _).below hB (HMp.out.alloc _).lt); have HB4 := Aside0.mk (below_then (below_alloc HB.out _) (below_alloc HB.out _).size hB); clear hB; have hn0 := (blk_cell HNw.out 0).trans rfl; have hn1 := (blk_cell HNw.out 1).trans rfl))
        refine bodyPost_ret (results_tmp2 rfl _ _ _) rfl ?_
        rw [HR.out]
        exact ⟨rfl, HB4.out⟩
      | true =>
        have ER := Aside0.mk hr
        clear hr
        have HOK : Aside0 (MSB.ok x.f0) := ⟨name_ok (student_name ER.out)⟩
        by_cases h2 : x.f0 ∈ (xs.take i).map (fun x : S66 => x.f0)
        · have HL : Aside0 (∀ u, MIs MSB u w.heap.size s f → (Instr.lookup 151 (.map (some w.heap.size)) (.string x.f0) false).run Tryz.prog u = .ok (.bool true) u) := ⟨fun u hu => by have h3 := hu.run_look x.f0 HOK.out; rw [HF.out x.f0, if_pos h2] at h3; exact h3⟩
          have HR : Aside0 (badI (studentB (p.courses.length : Int)) (fun x : S66 => x.f0) most xs = some i) := ⟨badI_some (by have := HM.out; omega) (badAt_mem HX.out h2) HN.out⟩
          clear h2
          go_wp2_with (first
            | (go_at_call 55; refine (csStudent _ p a HSh.out x B1 d1 (Kd.C_below HG1.out (below_alloc HB.out _)) HL1.out (HGo.out x (List.mem_of_getElem? HX.out)) pb (blk_alloc (blk_then HPB.out HB.out) _)).mono ?_; rintro e w4 ⟨rfl, hB⟩; rw [ER.out]; have HNw := Aside0.mk (blk_then (blk_new wr _) hB); have HM4 := Aside0.mk ((HMp.out.alloc _).below hB (HMp.out.alloc _).lt); have HB4 := Aside0.mk (below_then (below_alloc HB.out _) (below_alloc HB.out _).size hB); clear hB; have hn0 := (blk_cell HNw.out 0).trans rfl; have hn1 := (blk_cell HNw.out 1).trans rfl)
            | (go_at_call 54; refine (problem_studentName.calls _ _ _ _ x.f0 _ (Kd.C_below HG1.out HB4.out) HL1.out rfl).mono ?_; rintro e w5 ⟨rfl, hB⟩; have HNw2 := Aside0.mk (blk_then HNw.out hB); have HM42 := Aside0.mk (HM4.out.below hB HM4.out.lt); have HB42 := Aside0.mk (below_then HB4.out HB4.out.size hB); clear hB HNw HM4 HB4 hn0 hn1; have HNw := HNw2; have HM4 := HM42; have HB4 := HB42; clear HNw2 HM42 HB42; have hn0 := (blk_cell HNw.out 0).trans rfl; have hn1 := (blk_cell HNw.out 1).trans rfl; have hlook : (Instr.lookup 151 (.map (some w.heap.size)) (.string x.f0) false).run Tryz.prog w5 = .ok (.bool true) w5 := HL.out _ HM4.out))
          refine bodyPost_ret (results_tmp2 rfl _ _ _) rfl ?_
          rw [HR.out]
          exact ⟨rfl, HB4.out⟩
        · have HL : Aside0 (∀ u, MIs MSB u w.heap.size s f → (Instr.lookup 151 (.map (some w.heap.size)) (.string x.f0) false).run Tryz.prog u = .ok (.bool false) u) := ⟨fun u hu => by have h3 := hu.run_look x.f0 HOK.out; rw [HF.out x.f0, if_neg h2] at h3; exact h3⟩
          have HNone : Aside0 (f x.f0 = none) := ⟨by rw [HF.out x.f0, if_neg h2]⟩
          have HF2 := Aside0.mk (HF.out.step HX.out)
          have HA : Aside0 (badAt (studentB (p.courses.length : Int)) (fun x : S66 => x.f0) most xs i = false) := ⟨badAt_no HX.out H0.out ER.out h2⟩
          clear h2
          go_wp2_with (first
            | (go_at_call 55; refine (csStudent _ p a HSh.out x B1 d1 (Kd.C_below HG1.out (below_alloc HB.out _)) HL1.out (HGo.out x (List.mem_of_getElem? HX.out)) pb (blk_alloc (blk_then HPB.out HB.out) _)).mono ?_; rintro e w4 ⟨rfl, hB⟩; rw [ER.out]; have HNw := Aside0.mk (blk_then (blk_new wr _) hB); have HM4 := Aside0.mk ((HMp.out.alloc _).below hB (HMp.out.alloc _).lt); have HB4 := Aside0.mk (below_then (below_alloc HB.out _) (below_alloc HB.out _).size hB); clear hB; have hn0 := (blk_cell HNw.out 0).trans rfl; have hn1 := (blk_cell HNw.out 1).trans rfl)
            | (go_at_call 54; refine (problem_studentName.calls _ _ _ _ x.f0 _ (Kd.C_below HG1.out HB4.out) HL1.out rfl).mono ?_; rintro e w5 ⟨rfl, hB⟩; have HNw2 := Aside0.mk (blk_then HNw.out hB); have HM42 := Aside0.mk (HM4.out.below hB HM4.out.lt); have HB42 := Aside0.mk (below_then HB4.out HB4.out.size hB); clear hB HNw HM4 HB4 hn0 hn1; have HNw := HNw2; have HM4 := HM42; have HB4 := HB42; clear HNw2 HM42 HB42; have hn0 := (blk_cell HNw.out 0).trans rfl; have hn1 := (blk_cell HNw.out 1).trans rfl; have hlook : (Instr.lookup 151 (.map (some w.heap.size)) (.string x.f0) false).run Tryz.prog w5 = .ok (.bool false) w5 := HL.out _ HM4.out)
            | (at_mapUpdate; refine wl_put HM4.out rfl _ _ _ rfl rfl (by have := HS.out; have := HMo.out; unfold maxLen; omega) x.f0 HOK.out rfl true trivial rfl ?_; intro w6 hM6 hg6; have HM6 := Aside0.mk hM6; have HG6 := Aside0.mk hg6; clear hM6 hg6))
          exact ⟨⟨i + 1, _, s + 1, by omega, by go_num, ⟨fun j hj => by
            by_cases e : j = i
            · rw [e]; exact HA.out
            · exact HN.out j (by omega)⟩, ⟨by have := HIM.out; have := H0.out; omega⟩, HF2, ⟨by have := HS.out; omega⟩, ⟨by have h6 := HM6.out; rw [HNone.out] at h6; exact h6⟩, ⟨HB4.out.grown HG6.out HB4.out.size (fun q e => by cases e; exact Nat.le_refl _)⟩⟩, by simp [intOf]; omega⟩
    · obtain rfl : i = m := by omega
      have HR : Aside0 (badI (studentB (p.courses.length : Int)) (fun x : S66 => x.f0) most xs = none) := ⟨badI_none (fun j hj => HN.out j (by have := HM.out; omega))⟩
      go_wp2
      refine bodyPost_ret (results_tmp2 rfl _ _ _) rfl ?_
      rw [HR.out]
      exact ⟨rfl, HB.out⟩
set_option maxRecDepth 100000 in
set_option maxHeartbeats 2000000 in
theorem badRule (w : World) (p : PV) (a : PA) (hsh : Short p) (A : Option Addr) (m c : Nat) (xs : List S69) (hm : xs.length = m) (hC : Kd.C k69 w A xs.length xs) (mo : Int) (most : Nat) (hmo : mo = (most : Int)) (hmost : most ≤ 1000) (hgood : ∀ x, x ∈ xs → True) (pb : Nat) (hpb : w.heap[pb]? = some (.cells (pcs p a) 34 (0, 0))) :
    Calls Tryz.prog 57 #[.slice A m c, .int .i64 mo, .nilFunc, .func (.func 58) #[] #[.pointer (some ⟨pb, 0, none⟩)]] w fun e w' => e = .returned (.tuple #[.int .i64 (badN (badR (ruleB (p.classes.length : Int)) most xs)), .bool (badR (ruleB (p.classes.length : Int)) most xs).isSome]) ∧ Below w.heap.size w w' := by
  subst hmo
  have HSh := Aside0.mk hsh
  have HM := Aside0.mk hm
  have HC := Aside0.mk hC
  have HMo := Aside0.mk hmost
  have HGo := Aside0.mk hgood
  have HPB := Aside0.mk hpb
  have hmx := Kd.C_max hC
  rw [hm] at hmx
  clear hsh hm hC hmost hgood hpb
  have hut := Tryz.underlying69
  have hnf := @run_neq_nofunc Tryz.prog 160 _ _ _ Tryz.underlying160
  have hmm := @run_makeMap Tryz.prog
  go_enter Tryz.func57, Tryz.ntmps57
  go_wp2
  go_loopw [16] (fun v16 wr => ∃ (i : Nat), i ≤ m ∧ v16 = .int .i64 i ∧ Aside0 (∀ j, j < i → badRAt (ruleB (p.classes.length : Int)) most xs j = false) ∧ Aside0 (i ≤ most) ∧ Aside0 (Below w.heap.size w wr)) (fun v16 _ => m - (intOf v16).toNat)
  case atStart => exact ⟨0, Nat.zero_le _, rfl, ⟨fun j hj => by omega⟩, ⟨Nat.zero_le _⟩, ⟨below_alloc (Below.refl _ _) _⟩⟩
  case round =>
    clear hmm
    obtain ⟨i, hi, rfl, HN, HIM, HB⟩ := hrel
    by_cases him : i < m
    · have him2 : (i : Int) < (m : Int) := by omega
      obtain ⟨x, hx⟩ : ∃ x, xs[i]? = some x := ⟨_, List.getElem?_eq_getElem (by have := HM.out; omega)⟩
      obtain ⟨ad, B1, d1, rfl, hq0, hq1, hq2, hq3, hq4, hq5, ⟨g1, l1⟩⟩ := elRule HC.out hx
      have hk0 := pw_cell_below HB.out hq0
      have hk1 := pw_cell_below HB.out hq1
      have hk2 := pw_cell_below HB.out hq2
      have hk3 := pw_cell_below HB.out hq3
      have hk4 := pw_cell_below HB.out hq4
      have hk5 := pw_cell_below HB.out hq5
      have HX := Aside0.mk hx
      have HG1 := Aside0.mk g1
      have HL1 := Aside0.mk l1
      clear hx g1 l1 hq0 hq1 hq2 hq3 hq4 hq5
      by_cases h0 : i = most
      · have hz : ((i : Int) == (most : Int)) = true := by rw [beq_iff_eq]; omega
        have HR : Aside0 (badR (ruleB (p.classes.length : Int)) most xs = some i) := ⟨badR_some (by have := HM.out; omega) (badRAt_max HX.out h0) HN.out⟩
        clear h0
        go_wp2
        refine bodyPost_ret (results_tmp2 rfl _ _ _) rfl ?_
        rw [HR.out]
        exact ⟨rfl, below_alloc HB.out _⟩
      have hz : ((i : Int) == (most : Int)) = false := by rw [beq_eq_false_iff_ne]; omega
      have H0 := Aside0.mk h0
      clear h0
      cases hr : (ruleB (p.classes.length : Int)) x with
      | false =>
        have ER := Aside0.mk hr
        clear hr
        have HR : Aside0 (badR (ruleB (p.classes.length : Int)) most xs = some i) := ⟨badR_some (by have := HM.out; omega) (badRAt_not HX.out ER.out) HN.out⟩
        go_wp2_with (first
          | (go_at_call 58; refine (csRule _ p a HSh.out x B1 d1 (Kd.C_below HG1.out (below_alloc HB.out _)) HL1.out (HGo.out x (List.mem_of_getElem? HX.out)) pb (blk_alloc (blk_then HPB.out HB.out) _)).mono ?_; rintro e w4 ⟨rfl, hB⟩; rw [ER.out]; have HNw := Aside0.mk (blk_then (blk_new wr _) hB); have HB4 := Aside0.mk (below_then (below_alloc HB.out _) (below_alloc HB.out _).size hB); clear hB; have hn0 := (blk_cell HNw.out 0).trans rfl; have hn1 := (blk_cell HNw.out 1).trans rfl; have hn2 := (blk_cell HNw.out 2).trans rfl; have hn3 := (blk_cell HNw.out 3).trans rfl; have hn4 := (blk_cell HNw.out 4).trans rfl; have hn5 := (blk_cell HNw.out 5).trans rfl))
        refine bodyPost_ret (results_tmp2 rfl _ _ _) rfl ?_
        rw [HR.out]
        exact ⟨rfl, HB4.out⟩
      | true =>
        have ER := Aside0.mk hr
        clear hr
        have HA : Aside0 (badRAt (ruleB (p.classes.length : Int)) most xs i = false) := ⟨badRAt_no HX.out H0.out ER.out⟩
        go_wp2_with (first
          | (go_at_call 58; refine (csRule _ p a HSh.out x B1 d1 (Kd.C_below HG1.out (below_alloc HB.out _)) HL1.out (HGo.out x (List.mem_of_getElem? HX.out)) pb (blk_alloc (blk_then HPB.out HB.out) _)).mono ?_; rintro e w4 ⟨rfl, hB⟩; rw [ER.out]; have HNw := Aside0.mk (blk_then (blk_new wr _) hB); have HB4 := Aside0.mk (below_then (below_alloc HB.out _) (below_alloc HB.out _).size hB); clear hB; have hn0 := (blk_cell HNw.out 0).trans rfl; have hn1 := (blk_cell HNw.out 1).trans rfl; have hn2 := (blk_cell HNw.out 2).trans rfl; have hn3 := (blk_cell HNw.out 3).trans rfl; have hn4 := (blk_cell HNw.out 4).trans rfl; have hn5 := (blk_cell HNw.out 5).trans rfl))
        exact ⟨⟨i + 1, by omega, by go_num, ⟨fun j hj => by
          by_cases e : j = i
          · rw [e]; exact HA.out
          · exact HN.out j (by omega)⟩, ⟨by have := HIM.out; have := H0.out; omega⟩, HB4⟩, by simp [intOf]; omega⟩
    · obtain rfl : i = m := by omega
      have HR : Aside0 (badR (ruleB (p.classes.length : Int)) most xs = none) := ⟨badR_none (fun j hj => HN.out j (by have := HM.out; omega))⟩
      go_wp2
      refine bodyPost_ret (results_tmp2 rfl _ _ _) rfl ?_
      rw [HR.out]
      exact ⟨rfl, HB.out⟩
end Go.Proofs.YtineikfhfmiidaaGreat.Pm
