import Derived.Test.YtineikfhfmiidaaGreatWMore
import Derived.Deep.Slices
import Derived.ChangeSame
import Derived.OpenShut
import Derived.Test.YtineikfhfmiidaaGreatPkS7
/- Arguments of any shape, opened: what a reading of an argument tells of its cells, kind by kind. -/
namespace Go.Proofs.YtineikfhfmiidaaGreat.Ak
open Go Go.RowKit Go.ChangeShapes Go.WideShapes Go.Proofs.YtineikfhfmiidaaGreatW.PrintWords
set_option linter.unusedVariables false
set_option linter.unusedSimpArgs false
section
variable {P : Program} {α β : Type}
/-- What reads as type t has cells of this kind, and a value that is good. -/
def Opens (P : Program) (t : TypeId) (d : Kd α) (good : α → Prop) : Prop :=
  ∀ (H : Type) (enc : TypeId × Value → H) (w : World) (base : Nat) (spare : Nat → Bool) (held : Bool) (n : Nat) (cs : List Value) (x : DataW H × List MemPlace), DataW.trod enc P w base spare held n t cs = some x → ∃ y, d.K w y cs ∧ good y
def FOpens (P : Program) (fl : List Field) (o : Nat) (d : Kd α) (good : α → Prop) : Prop :=
  ∀ (H : Type) (enc : TypeId × Value → H) (w : World) (base : Nat) (spare : Nat → Bool) (held : Bool) (n : Nat) (cs : List Value), cs.length = o + d.sz → (∀ f, f ∈ fl → ∃ x, DataW.trod enc P w base spare held n f.type ((cs.drop f.offset).take (P.cellsOf f.type)) = some x) → ∃ y, d.K w y (cs.drop o) ∧ good y
theorem opens_int {t : TypeId} {k : IntKind} (ht : P.underlying t = some (.int k)) : Opens P t (Kd.int k) (fun n => (Lit.int k n).wf = true) := by
  intro H enc w base spare held n cs x h
  obtain ⟨a, rfl, _, hw⟩ := DataW.trod_int ht h
  exact ⟨a, rfl, hw⟩
theorem opens_bool {t : TypeId} (ht : P.underlying t = some .bool) : Opens P t Kd.bool (fun _ => True) := by
  intro H enc w base spare held n cs x h
  obtain ⟨a, rfl, _⟩ := DataW.trod_bool ht h
  exact ⟨a, rfl, trivial⟩
theorem opens_string {t : TypeId} (ht : P.underlying t = some .string) : Opens P t Kd.string (fun s => s.size ≤ maxLen) := by
  intro H enc w base spare held n cs x h
  obtain ⟨a, rfl, _, hw⟩ := DataW.trod_string ht h
  exact ⟨a, rfl, hw⟩
theorem getLast_irrel {α : Type} (l : List α) (i : Nat) (h : i < l.length) (d : α) : l.getD i d = l[i] := by
  rw [List.getD_eq_getElem?_getD, List.getElem?_eq_getElem h]; rfl
theorem opens_slice {t e : TypeId} {q : Nat} {d : Kd α} {good : α → Prop} (ht : P.underlying t = some (.slice e)) (hd : Opens P e d good) (hs : P.cellsOf e = d.sz) : Opens P t (Kd.slice q d) (fun xs => ∀ y, y ∈ xs → good y) := by
  intro H enc w base spare held n cs x h
  rcases Deep.open_slice ht h with ⟨rfl, _⟩ | ⟨a, len, cap, m, k, D, Pl, rfl, hb, hl, hm, hmm, hxe, hx⟩
  · exact ⟨[], ⟨none, 0, rfl, Nat.le_refl _, rfl, by simp, fun h0 => absurd h0 (Nat.lt_irrefl 0)⟩, fun y hy => by cases hy⟩
  · have hlm : len ≤ m := by rw [hmm]; split <;> omega
    have key : ∀ i, i < len → ∃ y : α, (∃ c, c.length = d.sz ∧ d.K w y c ∧ ∀ j u, c[j]? = some u → w.cell? (a.add (i * d.sz + j)) = some u) ∧ good y := by
      intro i hi
      obtain ⟨cs', h1, h2⟩ := hx i (by omega)
      rw [hs] at h1
      obtain ⟨_, hlen, hcell⟩ := World.cells?_some h1
      obtain ⟨y, hy, hg⟩ := hd _ _ _ _ _ _ _ _ _ h2
      refine ⟨y, ⟨cs', hlen, hy, fun j u hu => ?_⟩, hg⟩
      have hj : j < d.sz := by rw [← hlen]; exact (List.getElem?_eq_some_iff.1 hu).1
      have := hcell j hj
      rw [Deep.add_add] at this
      rw [this, hu]
    obtain ⟨ys, hyl, hy⟩ : ∃ ys : List α, ys.length = len ∧ ∀ j p, ys[j]? = some p → (∃ c, c.length = d.sz ∧ d.K w p c ∧ ∀ i u, c[i]? = some u → w.cell? (a.add (j * d.sz + i)) = some u) ∧ good p := by
      clear h hx hl hm hmm hlm hxe
      induction len with
      | zero => exact ⟨[], rfl, fun j p hp => by simp at hp⟩
      | succ k ih =>
        obtain ⟨ys, hyl, hy⟩ := ih (fun i hi => key i (by omega))
        obtain ⟨y, hy1⟩ := key k (by omega)
        refine ⟨ys ++ [y], by simp [hyl], fun j p hp => ?_⟩
        by_cases e : j < ys.length
        · rw [List.getElem?_append_left e] at hp
          exact hy j p hp
        · rw [List.getElem?_append_right (by omega)] at hp
          have hj : j - ys.length = 0 := by
            have := (List.getElem?_eq_some_iff.1 hp).1
            simp at this
            omega
          rw [hj] at hp
          simp at hp
          subst hp
          have : j = k := by omega
          subst this
          exact hy1
    refine ⟨ys, ⟨some a, cap, by rw [hyl], by omega, rfl, by rw [hyl]; unfold maxLen at hm; omega, fun _ => ⟨a, rfl, fun j p hp => ?_⟩⟩, fun y hy2 => ?_⟩
    · obtain ⟨⟨c, h1, h2, h3⟩, _⟩ := hy j p hp
      exact ⟨c, h1, h2, h3⟩
    · obtain ⟨j, hj, rfl⟩ := List.getElem_of_mem hy2
      exact (hy j _ (List.getElem?_eq_getElem hj)).2
theorem fopens_one {f : Field} {o : Nat} {d : Kd α} {good : α → Prop} (hd : Opens P f.type d good) (ho : f.offset = o) (hs : P.cellsOf f.type = d.sz) : FOpens P [f] o d good := by
  intro H enc w base spare held n cs hl hf
  obtain ⟨x, hx⟩ := hf f (List.mem_singleton.2 rfl)
  rw [ho, hs, List.take_of_length_le (by rw [List.length_drop]; omega)] at hx
  exact hd _ _ _ _ _ _ _ _ _ hx
theorem fopens_cons {f : Field} {fl : List Field} {o : Nat} {d : Kd α} {d' : Kd β} {good : α → Prop} {good' : β → Prop} (hd : Opens P f.type d good) (ho : f.offset = o) (hs : P.cellsOf f.type = d.sz) (hr : FOpens P fl (o + d.sz) d' good') : FOpens P (f :: fl) o (Kd.pair d d') (fun y => good y.1 ∧ good' y.2) := by
  intro H enc w base spare held n cs hl hf
  have hl2 : cs.length = o + (d.sz + d'.sz) := hl
  obtain ⟨x, hx⟩ := hf f List.mem_cons_self
  rw [ho, hs] at hx
  obtain ⟨y, hy, hg⟩ := hd _ _ _ _ _ _ _ _ _ hx
  obtain ⟨z, hz, hg2⟩ := hr H enc w base spare held n cs (by omega) (fun f2 hf2 => hf f2 (List.mem_cons_of_mem _ hf2))
  exact ⟨(y, z), ⟨_, _, by rw [← List.drop_drop, List.take_append_drop], hy, hz⟩, hg, hg2⟩
theorem opens_struct {t : TypeId} {fs : Array Field} {d : Kd α} {good : α → Prop} (ht : P.underlying t = some (.struct fs)) (hF : FOpens P fs.toList 0 d good) (hs : P.cellsOf t = d.sz) : Opens P t d good := by
  intro H enc w base spare held n cs x h
  obtain ⟨xs, m, rfl, rfl, hl, hxl, hx⟩ := DataW.trod_struct ht h
  have := hF H enc w base spare held m cs (by rw [hl, hs]; omega) (fun f hf => ?_)
  · rw [List.drop_zero] at this
    exact this
  · obtain ⟨i, hi, rfl⟩ := List.getElem_of_mem hf
    have hi2 : i < fs.size := by simpa using hi
    have h3 := hx i fs.toList[i] (by simp [hi2])
    rw [h3, List.getElem?_eq_getElem (by omega)]
    exact ⟨_, rfl⟩
theorem open_any {H : Type} {enc : TypeId × Value → H} {w : World} {base : Nat} {spare : Nat → Bool} {held : Bool} {t : TypeId} {v : Value} {dd : DataW H} {ps : List MemPlace} {d : Kd α} {good : α → Prop} (hd : Opens P t d good) (h : DataW.Trod enc P w base spare held t v dd ps) : ∃ y, d.K w y v.cells.toList ∧ good y := by
  obtain ⟨fuel, hf⟩ := h
  exact hd _ _ _ _ _ _ _ _ _ hf
end
theorem i64_lo {a : Int} (h : (Lit.int .i64 a).wf = true) : -9223372036854775808 ≤ a := by
  simp [Lit.wf, IntKind.min, IntKind.max, IntKind.signed, IntKind.bits] at h
  omega
theorem i64_hi {a : Int} (h : (Lit.int .i64 a).wf = true) : a ≤ 9223372036854775807 := by
  simp [Lit.wf, IntKind.min, IntKind.max, IntKind.signed, IntKind.bits] at h
  omega
end Go.Proofs.YtineikfhfmiidaaGreat.Ak

/- A problem among a law's arguments. -/
namespace Go.Proofs.YtineikfhfmiidaaGreat.Ak
open Go Go.RowKit Go.ChangeShapes Go.WideShapes Go.Proofs.YtineikfhfmiidaaGreatW.PrintWords Go.Proofs.YtineikfhfmiidaaGreat.Gp Go.Proofs.YtineikfhfmiidaaGreat.Pm
set_option linter.unusedVariables false
set_option linter.unusedSimpArgs false
theorem opens_iso {P : Program} {α β : Type} {t : TypeId} {d : Kd α} {good : α → Prop} {f : β → α} (g : α → β) (hfg : ∀ y, f (g y) = y) (h : Opens P t d good) : Opens P t (Kd.iso d f) (fun x => good (f x)) := by
  intro H enc w base spare held n cs x hx
  obtain ⟨y, hy, hg⟩ := h H enc w base spare held n cs x hx
  exact ⟨g y, by show d.K w (f (g y)) cs; rw [hfg]; exact hy, by show good (f (g y)); rw [hfg]; exact hg⟩
theorem opens_any {P : Program} {α : Type} {t : TypeId} {d : Kd α} {good : α → Prop} (h : Opens P t d good) : Opens P t d (fun _ => True) := by
  intro H enc w base spare held n cs x hx
  obtain ⟨y, hy, _⟩ := h H enc w base spare held n cs x hx
  exact ⟨y, hy, trivial⟩
set_option maxRecDepth 100000 in
theorem opensWhen : Opens Tryz.prog 50 k50 (fun _ => True) :=
  opens_any (opens_iso (fun y => ⟨y.1, y.2.1, y.2.2.1, y.2.2.2⟩) (fun y => rfl) (opens_struct Tryz.underlying50
      (fopens_cons (opens_int Tryz.underlying48) rfl (by kernel_rfl)
      (fopens_cons (opens_int Tryz.underlying5) rfl (by kernel_rfl)
      (fopens_cons (opens_int Tryz.underlying3) rfl (by kernel_rfl)
      (fopens_one (opens_int Tryz.underlying3) rfl (by kernel_rfl))))) (by kernel_rfl)))
set_option maxRecDepth 100000 in
theorem opensRoom : Opens Tryz.prog 47 k47 (fun _ => True) :=
  opens_any (opens_iso (fun y => ⟨y.1, y.2.1, y.2.2.1, y.2.2.2⟩) (fun y => rfl) (opens_struct Tryz.underlying47
      (fopens_cons (opens_string Tryz.underlying9) rfl (by kernel_rfl)
      (fopens_cons (opens_int Tryz.underlying3) rfl (by kernel_rfl)
      (fopens_cons (opens_int Tryz.underlying44) rfl (by kernel_rfl)
      (fopens_one (opens_slice Tryz.underlying45 opensWhen (by kernel_rfl)) rfl (by kernel_rfl))))) (by kernel_rfl)))
set_option maxRecDepth 100000 in
theorem opensPerson : Opens Tryz.prog 53 k53 (fun _ => True) :=
  opens_any (opens_iso (fun y => ⟨y.1, y.2⟩) (fun y => rfl) (opens_struct Tryz.underlying53
      (fopens_cons (opens_string Tryz.underlying9) rfl (by kernel_rfl)
      (fopens_one (opens_slice Tryz.underlying45 opensWhen (by kernel_rfl)) rfl (by kernel_rfl))) (by kernel_rfl)))
set_option maxRecDepth 100000 in
theorem opensTime : Opens Tryz.prog 117 k117 (fun _ => True) :=
  opens_any (opens_iso (fun y => ⟨y.1, y.2⟩) (fun y => rfl) (opens_struct Tryz.underlying117
      (fopens_cons opensWhen rfl (by kernel_rfl)
      (fopens_one (opens_int Tryz.underlying3) rfl (by kernel_rfl))) (by kernel_rfl)))
set_option maxRecDepth 100000 in
theorem opensPlace : Opens Tryz.prog 120 k120 (fun _ => True) :=
  opens_any (opens_iso (fun y => ⟨y.1, y.2⟩) (fun y => rfl) (opens_struct Tryz.underlying120
      (fopens_cons (opens_int Tryz.underlying3) rfl (by kernel_rfl)
      (fopens_one (opens_int Tryz.underlying3) rfl (by kernel_rfl))) (by kernel_rfl)))
set_option maxRecDepth 100000 in
theorem opensClass : Opens Tryz.prog 58 k58 (fun _ => True) :=
  opens_any (opens_iso (fun y => ⟨y.1, y.2.1, y.2.2.1, y.2.2.2.1, y.2.2.2.2.1, y.2.2.2.2.2.1, y.2.2.2.2.2.2⟩) (fun y => rfl) (opens_struct Tryz.underlying58
      (fopens_cons (opens_string Tryz.underlying9) rfl (by kernel_rfl)
      (fopens_cons (opens_int Tryz.underlying3) rfl (by kernel_rfl)
      (fopens_cons (opens_int Tryz.underlying44) rfl (by kernel_rfl)
      (fopens_cons (opens_slice Tryz.underlying51 (opens_int Tryz.underlying3) (by kernel_rfl)) rfl (by kernel_rfl)
      (fopens_cons (opens_slice Tryz.underlying55 opensTime (by kernel_rfl)) rfl (by kernel_rfl)
      (fopens_cons (opens_slice Tryz.underlying56 opensPlace (by kernel_rfl)) rfl (by kernel_rfl)
      (fopens_one (opens_int Tryz.underlying3) rfl (by kernel_rfl)))))))) (by kernel_rfl)))
set_option maxRecDepth 100000 in
theorem opensWay : Opens Tryz.prog 63 k63 (fun _ => True) :=
  opens_any (opens_iso (fun y => ⟨y⟩) (fun y => rfl) (opens_struct Tryz.underlying63
      (fopens_one (opens_slice Tryz.underlying25 (opens_slice Tryz.underlying51 (opens_int Tryz.underlying3) (by kernel_rfl)) (by kernel_rfl)) rfl (by kernel_rfl)) (by kernel_rfl)))
set_option maxRecDepth 100000 in
theorem opensCourse : Opens Tryz.prog 61 k61 (fun _ => True) :=
  opens_any (opens_iso (fun y => ⟨y.1, y.2⟩) (fun y => rfl) (opens_struct Tryz.underlying61
      (fopens_cons (opens_string Tryz.underlying9) rfl (by kernel_rfl)
      (fopens_one (opens_slice Tryz.underlying59 opensWay (by kernel_rfl)) rfl (by kernel_rfl))) (by kernel_rfl)))
set_option maxRecDepth 100000 in
theorem opensStudent : Opens Tryz.prog 66 k66 (fun _ => True) :=
  opens_any (opens_iso (fun y => ⟨y.1, y.2⟩) (fun y => rfl) (opens_struct Tryz.underlying66
      (fopens_cons (opens_string Tryz.underlying9) rfl (by kernel_rfl)
      (fopens_one (opens_slice Tryz.underlying51 (opens_int Tryz.underlying3) (by kernel_rfl)) rfl (by kernel_rfl))) (by kernel_rfl)))
set_option maxRecDepth 100000 in
theorem opensRule : Opens Tryz.prog 69 k69 (fun _ => True) :=
  opens_any (opens_iso (fun y => ⟨y.1, y.2.1, y.2.2.1, y.2.2.2.1, y.2.2.2.2.1, y.2.2.2.2.2⟩) (fun y => rfl) (opens_struct Tryz.underlying69
      (fopens_cons (opens_int Tryz.underlying67) rfl (by kernel_rfl)
      (fopens_cons (opens_slice Tryz.underlying51 (opens_int Tryz.underlying3) (by kernel_rfl)) rfl (by kernel_rfl)
      (fopens_cons (opens_int Tryz.underlying3) rfl (by kernel_rfl)
      (fopens_cons (opens_int Tryz.underlying3) rfl (by kernel_rfl)
      (fopens_cons (opens_bool Tryz.underlying4) rfl (by kernel_rfl)
      (fopens_one (opens_int Tryz.underlying3) rfl (by kernel_rfl))))))) (by kernel_rfl)))
set_option maxRecDepth 100000 in
theorem opensGrid : Opens Tryz.prog 23 (Kd.pair (Kd.int .i64) (Kd.pair (Kd.int .i64) (Kd.int .i64))) (fun _ => True) :=
  opens_any (opens_struct Tryz.underlying23 (fopens_cons (opens_int Tryz.underlying3) rfl (by kernel_rfl)
      (fopens_cons (opens_int Tryz.underlying3) rfl (by kernel_rfl)
      (fopens_one (opens_int Tryz.underlying3) rfl (by kernel_rfl)))) (by kernel_rfl))
set_option maxRecDepth 100000 in
theorem opensWeigh : Opens Tryz.prog 32 (Kd.pair (Kd.int .i64) (Kd.pair (Kd.int .i64) (Kd.pair (Kd.int .i64) (Kd.int .i64)))) (fun _ => True) :=
  opens_any (opens_struct Tryz.underlying32 (fopens_cons (opens_int Tryz.underlying3) rfl (by kernel_rfl)
      (fopens_cons (opens_int Tryz.underlying3) rfl (by kernel_rfl)
      (fopens_cons (opens_int Tryz.underlying3) rfl (by kernel_rfl)
      (fopens_one (opens_int Tryz.underlying3) rfl (by kernel_rfl))))) (by kernel_rfl))
set_option maxRecDepth 100000 in
theorem opensProblem : Opens Tryz.prog 34 (Kd.pair Kd.string (Kd.pair (Kd.pair (Kd.int .i64) (Kd.pair (Kd.int .i64) (Kd.int .i64))) (Kd.pair (Kd.slice 0 k47) (Kd.pair (Kd.slice 0 (Kd.slice 3 (Kd.int .i64))) (Kd.pair (Kd.slice 0 k53) (Kd.pair (Kd.slice 0 k58) (Kd.pair (Kd.slice 0 k61) (Kd.pair (Kd.slice 0 k66) (Kd.pair (Kd.slice 0 k69) (Kd.pair (Kd.int .i64) (Kd.pair (Kd.int .i64) (Kd.pair (Kd.int .i64) (Kd.int .i64))))))))))))) (fun _ => True) :=
  opens_any (opens_struct Tryz.underlying34
      (fopens_cons (opens_string Tryz.underlying9) rfl (by kernel_rfl)
      (fopens_cons opensGrid rfl (by kernel_rfl)
      (fopens_cons (opens_slice Tryz.underlying24 opensRoom (by kernel_rfl)) rfl (by kernel_rfl)
      (fopens_cons (opens_slice Tryz.underlying25 (opens_slice Tryz.underlying51 (opens_int Tryz.underlying3) (by kernel_rfl)) (by kernel_rfl)) rfl (by kernel_rfl)
      (fopens_cons (opens_slice Tryz.underlying26 opensPerson (by kernel_rfl)) rfl (by kernel_rfl)
      (fopens_cons (opens_slice Tryz.underlying27 opensClass (by kernel_rfl)) rfl (by kernel_rfl)
      (fopens_cons (opens_slice Tryz.underlying28 opensCourse (by kernel_rfl)) rfl (by kernel_rfl)
      (fopens_cons (opens_slice Tryz.underlying29 opensStudent (by kernel_rfl)) rfl (by kernel_rfl)
      (fopens_cons (opens_slice Tryz.underlying30 opensRule (by kernel_rfl)) rfl (by kernel_rfl)
      (fopens_one opensWeigh rfl (by kernel_rfl))))))))))) (by kernel_rfl))
theorem agg_ofP {cs : Array Value} {l : List Value} (h : cs.toList = l) : Value.agg cs = .agg l.toArray := by rw [← h]
set_option maxRecDepth 100000 in
theorem open_problem {H : Type} {enc : TypeId × Value → H} {w : World} {base b0 : Nat} {r : Reach} {spare : Nat → Bool} {held : Bool} {v : Value} {dd : DataW H} {ps : List MemPlace} (hv : Value.okWide Tryz.prog w r b0 34 v)
    (h : DataW.Trod enc Tryz.prog w base spare held 34 v dd ps) : ∃ (p : PV) (a : PA), v = .agg (pcs p a) ∧ PRd w p a := by
  obtain ⟨cells, rfl, _⟩ := okWide_struct Tryz.underlying34 hv
  obtain ⟨⟨nm, ⟨g0, g1, g2⟩, rooms, walk, persons, classes, courses, students, rules, w0, w1, w2, w3⟩, hK, _⟩ := open_any opensProblem h
  obtain ⟨cn, r0, e0, hn, hK⟩ := hK
  obtain ⟨cg, r1, rfl, ⟨cg0, cg1, rfl, hg0, ⟨cg2, cg3, rfl, hg1, hg2⟩⟩, hK⟩ := hK
  obtain ⟨cc4, rr4, rfl, ⟨A4, c4, rfl, l4, C4⟩, hK⟩ := hK
  obtain ⟨cc5, rr5, rfl, ⟨A5, c5, rfl, l5, C5⟩, hK⟩ := hK
  obtain ⟨cc6, rr6, rfl, ⟨A6, c6, rfl, l6, C6⟩, hK⟩ := hK
  obtain ⟨cc7, rr7, rfl, ⟨A7, c7, rfl, l7, C7⟩, hK⟩ := hK
  obtain ⟨cc8, rr8, rfl, ⟨A8, c8, rfl, l8, C8⟩, hK⟩ := hK
  obtain ⟨cc9, rr9, rfl, ⟨A9, c9, rfl, l9, C9⟩, hK⟩ := hK
  obtain ⟨cc10, rr10, rfl, ⟨A10, c10, rfl, l10, C10⟩, hK⟩ := hK
  obtain ⟨cw0, cw1, rfl, hw0, ⟨cw2, cw3, rfl, hw1, ⟨cw4, cw5, rfl, hw2, hw3⟩⟩⟩ := hK
  have hn' : cn = [.string nm] := hn
  have hg0' : cg0 = [.int .i64 g0] := hg0
  have hg1' : cg2 = [.int .i64 g1] := hg1
  have hg2' : cg3 = [.int .i64 g2] := hg2
  have hw0' : cw0 = [.int .i64 w0] := hw0
  have hw1' : cw2 = [.int .i64 w1] := hw1
  have hw2' : cw4 = [.int .i64 w2] := hw2
  have hw3' : cw5 = [.int .i64 w3] := hw3
  subst hn' hg0' hg1' hg2' hw0' hw1' hw2' hw3'
  exact ⟨⟨nm, g0, g1, g2, rooms, walk, persons, classes, courses, students, rules, w0, w1, w2, w3⟩, ⟨A4, c4, A5, c5, A6, c6, A7, c7, A8, c8, A9, c9, A10, c10⟩, agg_ofP e0, ⟨C4, l4, C5, l5, C6, l6, C7, l7, C8, l8, C9, l9, C10, l10⟩⟩
end Go.Proofs.YtineikfhfmiidaaGreat.Ak
