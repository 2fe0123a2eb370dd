import Derived.Test.YtineikfhfmiidaaGreatGpB
import Derived.Test.YtineikfhfmiidaaGreatGpA
import Derived.Deep.RegionHeld3
import Derived.Deep.DeepCutAuto
import Derived.Outline
import Derived.Lib.Hide
import Derived.WalkSpells
import Derived.Maps.OwnSet
import Derived.Maps.OwnOps
import Derived.Test.YtineikfhfmiidaaGreatWMore
/- Problems: what a problem's cells say. -/
namespace Go.Proofs.YtineikfhfmiidaaGreat.Pm
open Go Go.RowKit Go.Proofs.YtineikfhfmiidaaGreat.Gp Go.Proofs.YtineikfhfmiidaaGreatW.PrintWords Go.Proofs.YtineikfhfmiidaaGreatW.PrintLast Go.Proofs.YtineikfhfmiidaaGreatW.PrintMore
set_option linter.unusedVariables false
set_option linter.unusedSimpArgs false
/-- A problem, read. -/
structure PV where
  nm : ByteArray
  g0 : Int
  g1 : Int
  g2 : Int
  rooms : List S47
  walk : List (List Int)
  persons : List S53
  classes : List S58
  courses : List S61
  students : List S66
  rules : List S69
  w0 : Int
  w1 : Int
  w2 : Int
  w3 : Int
/-- Where its rows lie. -/
structure PA where
  A4 : Option Addr
  c4 : Nat
  A5 : Option Addr
  c5 : Nat
  A6 : Option Addr
  c6 : Nat
  A7 : Option Addr
  c7 : Nat
  A8 : Option Addr
  c8 : Nat
  A9 : Option Addr
  c9 : Nat
  A10 : Option Addr
  c10 : Nat
/-- Its cells. -/
def pcs (p : PV) (a : PA) : Array Value := #[.string p.nm, .int .i64 p.g0, .int .i64 p.g1, .int .i64 p.g2, .slice a.A4 p.rooms.length a.c4, .slice a.A5 p.walk.length a.c5, .slice a.A6 p.persons.length a.c6, .slice a.A7 p.classes.length a.c7, .slice a.A8 p.courses.length a.c8, .slice a.A9 p.students.length a.c9, .slice a.A10 p.rules.length a.c10, .int .i64 p.w0, .int .i64 p.w1, .int .i64 p.w2, .int .i64 p.w3]
structure PRd (w : World) (p : PV) (a : PA) : Prop where
  r4 : Kd.C k47 w a.A4 p.rooms.length p.rooms
  l4 : p.rooms.length ≤ a.c4
  r5 : Kd.C (Kd.slice 3 (Kd.int .i64)) w a.A5 p.walk.length p.walk
  l5 : p.walk.length ≤ a.c5
  r6 : Kd.C k53 w a.A6 p.persons.length p.persons
  l6 : p.persons.length ≤ a.c6
  r7 : Kd.C k58 w a.A7 p.classes.length p.classes
  l7 : p.classes.length ≤ a.c7
  r8 : Kd.C k61 w a.A8 p.courses.length p.courses
  l8 : p.courses.length ≤ a.c8
  r9 : Kd.C k66 w a.A9 p.students.length p.students
  l9 : p.students.length ≤ a.c9
  r10 : Kd.C k69 w a.A10 p.rules.length p.rules
  l10 : p.rules.length ≤ a.c10
theorem PRd.below {w w' : World} {p : PV} {a : PA} (h : PRd w p a) (hB : Below w.heap.size w w') : PRd w' p a :=
  ⟨Kd.C_below h.r4 hB, h.l4, Kd.C_below h.r5 hB, h.l5, Kd.C_below h.r6 hB, h.l6, Kd.C_below h.r7 hB, h.l7, Kd.C_below h.r8 hB, h.l8, Kd.C_below h.r9 hB, h.l9, Kd.C_below h.r10 hB, h.l10⟩
end Go.Proofs.YtineikfhfmiidaaGreat.Pm

/- Package problem's helpers at empty rows. -/
namespace Go.Proofs.YtineikfhfmiidaaGreat.Pm
open Go Go.RowKit Go.Proofs.YtineikfhfmiidaaGreat.Gp Go.Proofs.YtineikfhfmiidaaGreatW.PrintWords Go.Proofs.YtineikfhfmiidaaGreatW.PrintLast Go.Proofs.YtineikfhfmiidaaGreatW.PrintMore
set_option linter.unusedVariables false
set_option linter.unusedSimpArgs false
set_option maxRecDepth 100000 in
theorem badRoom_nil (w : World) (m : Int) (f g : Value) :
    Calls Tryz.prog 36 #[.slice none 0 0, .int .i64 m, f, g] w fun e w' => e = .returned (.tuple #[.int .i64 0, .bool false]) ∧ Below w.heap.size w w' := by
  have hmm := @run_makeMap Tryz.prog
  go_enter Tryz.func36, Tryz.ntmps36
  go_wp2
  go_loopw [16] (fun v16 wr => v16 = .int .i64 0 ∧ Aside0 (Below w.heap.size w wr)) (fun _ _ => 0)
  case atStart => exact ⟨rfl, ⟨below_alloc (Below.refl _ _) _⟩⟩
  case round =>
    obtain ⟨rfl, HB⟩ := hrel
    go_wp2
    refine bodyPost_ret (results_tmp2 rfl _ _ _) rfl ?_
    exact ⟨rfl, HB.out⟩
set_option maxRecDepth 100000 in
theorem badPerson_nil (w : World) (m : Int) (f g : Value) :
    Calls Tryz.prog 41 #[.slice none 0 0, .int .i64 m, f, g] w fun e w' => e = .returned (.tuple #[.int .i64 0, .bool false]) ∧ Below w.heap.size w w' := by
  have hmm := @run_makeMap Tryz.prog
  go_enter Tryz.func41, Tryz.ntmps41
  go_wp2
  go_loopw [16] (fun v16 wr => v16 = .int .i64 0 ∧ Aside0 (Below w.heap.size w wr)) (fun _ _ => 0)
  case atStart => exact ⟨rfl, ⟨below_alloc (Below.refl _ _) _⟩⟩
  case round =>
    obtain ⟨rfl, HB⟩ := hrel
    go_wp2
    refine bodyPost_ret (results_tmp2 rfl _ _ _) rfl ?_
    exact ⟨rfl, HB.out⟩
set_option maxRecDepth 100000 in
theorem badClass_nil (w : World) (m : Int) (f g : Value) :
    Calls Tryz.prog 45 #[.slice none 0 0, .int .i64 m, f, g] w fun e w' => e = .returned (.tuple #[.int .i64 0, .bool false]) ∧ Below w.heap.size w w' := by
  have hmm := @run_makeMap Tryz.prog
  go_enter Tryz.func45, Tryz.ntmps45
  go_wp2
  go_loopw [16] (fun v16 wr => v16 = .int .i64 0 ∧ Aside0 (Below w.heap.size w wr)) (fun _ _ => 0)
  case atStart => exact ⟨rfl, ⟨below_alloc (Below.refl _ _) _⟩⟩
  case round =>
    obtain ⟨rfl, HB⟩ := hrel
    go_wp2
    refine bodyPost_ret (results_tmp2 rfl _ _ _) rfl ?_
    exact ⟨rfl, HB.out⟩
set_option maxRecDepth 100000 in
theorem badCourse_nil (w : World) (m : Int) (f g : Value) :
    Calls Tryz.prog 49 #[.slice none 0 0, .int .i64 m, f, g] w fun e w' => e = .returned (.tuple #[.int .i64 0, .bool false]) ∧ Below w.heap.size w w' := by
  have hmm := @run_makeMap Tryz.prog
  go_enter Tryz.func49, Tryz.ntmps49
  go_wp2
  go_loopw [16] (fun v16 wr => v16 = .int .i64 0 ∧ Aside0 (Below w.heap.size w wr)) (fun _ _ => 0)
  case atStart => exact ⟨rfl, ⟨below_alloc (Below.refl _ _) _⟩⟩
  case round =>
    obtain ⟨rfl, HB⟩ := hrel
    go_wp2
    refine bodyPost_ret (results_tmp2 rfl _ _ _) rfl ?_
    exact ⟨rfl, HB.out⟩
set_option maxRecDepth 100000 in
theorem badStudent_nil (w : World) (m : Int) (f g : Value) :
    Calls Tryz.prog 53 #[.slice none 0 0, .int .i64 m, f, g] w fun e w' => e = .returned (.tuple #[.int .i64 0, .bool false]) ∧ Below w.heap.size w w' := by
  have hmm := @run_makeMap Tryz.prog
  go_enter Tryz.func53, Tryz.ntmps53
  go_wp2
  go_loopw [16] (fun v16 wr => v16 = .int .i64 0 ∧ Aside0 (Below w.heap.size w wr)) (fun _ _ => 0)
  case atStart => exact ⟨rfl, ⟨below_alloc (Below.refl _ _) _⟩⟩
  case round =>
    obtain ⟨rfl, HB⟩ := hrel
    go_wp2
    refine bodyPost_ret (results_tmp2 rfl _ _ _) rfl ?_
    exact ⟨rfl, HB.out⟩
set_option maxRecDepth 100000 in
theorem badRule_nil (w : World) (m : Int) (f g : Value) :
    Calls Tryz.prog 57 #[.slice none 0 0, .int .i64 m, f, g] w fun e w' => e = .returned (.tuple #[.int .i64 0, .bool false]) ∧ Below w.heap.size w w' := by
  have hmm := @run_makeMap Tryz.prog
  go_enter Tryz.func57, Tryz.ntmps57
  go_wp2
  go_loopw [16] (fun v16 wr => v16 = .int .i64 0 ∧ Aside0 (Below w.heap.size w wr)) (fun _ _ => 0)
  case atStart => exact ⟨rfl, ⟨below_alloc (Below.refl _ _) _⟩⟩
  case round =>
    obtain ⟨rfl, HB⟩ := hrel
    go_wp2
    refine bodyPost_ret (results_tmp2 rfl _ _ _) rfl ?_
    exact ⟨rfl, HB.out⟩
set_option maxRecDepth 100000 in
theorem eqRoom_nil (w : World) (f : Value) :
    Calls Tryz.prog 85 #[.slice none 0 0, .slice none 0 0, f] w fun e w' => e = .returned (.bool true) ∧ Below w.heap.size w w' := by
  go_enter Tryz.func85, Tryz.ntmps85
  go_wp2
  go_loopw [17] (fun v17 wr => v17 = .int .i64 0 ∧ Aside0 (Below w.heap.size w wr)) (fun _ _ => 0)
  case atStart => exact ⟨rfl, ⟨Below.refl _ _⟩⟩
  case round =>
    obtain ⟨rfl, HB⟩ := hrel
    go_wp2
    go_ret
    exact ⟨rfl, HB.out⟩
set_option maxRecDepth 100000 in
theorem cloneRoom_nil (w : World) :
    Calls Tryz.prog 73 #[.slice none 0 0] w fun e w' => e = .returned (.slice none 0 0) ∧ Below w.heap.size w w' := by
  have he := fun W => Lib.run_eql_slice_nil (P := Tryz.prog) W _ _ none 0 0 0 0 Tryz.underlying24
  go_enter Tryz.func73, Tryz.ntmps73
  go_wp2
  go_ret
  exact ⟨rfl, Below.refl _ _⟩
set_option maxRecDepth 100000 in
theorem eqRow_nil (w : World) (f : Value) :
    Calls Tryz.prog 87 #[.slice none 0 0, .slice none 0 0, f] w fun e w' => e = .returned (.bool true) ∧ Below w.heap.size w w' := by
  go_enter Tryz.func87, Tryz.ntmps87
  go_wp2
  go_loopw [17] (fun v17 wr => v17 = .int .i64 0 ∧ Aside0 (Below w.heap.size w wr)) (fun _ _ => 0)
  case atStart => exact ⟨rfl, ⟨Below.refl _ _⟩⟩
  case round =>
    obtain ⟨rfl, HB⟩ := hrel
    go_wp2
    go_ret
    exact ⟨rfl, HB.out⟩
set_option maxRecDepth 100000 in
theorem cloneRow_nil (w : World) :
    Calls Tryz.prog 138 #[.slice none 0 0] w fun e w' => e = .returned (.slice none 0 0) ∧ Below w.heap.size w w' := by
  have he := fun W => Lib.run_eql_slice_nil (P := Tryz.prog) W _ _ none 0 0 0 0 Tryz.underlying25
  go_enter Tryz.func138, Tryz.ntmps138
  go_wp2
  go_ret
  exact ⟨rfl, Below.refl _ _⟩
set_option maxRecDepth 100000 in
theorem eqPerson_nil (w : World) (f : Value) :
    Calls Tryz.prog 89 #[.slice none 0 0, .slice none 0 0, f] w fun e w' => e = .returned (.bool true) ∧ Below w.heap.size w w' := by
  go_enter Tryz.func89, Tryz.ntmps89
  go_wp2
  go_loopw [17] (fun v17 wr => v17 = .int .i64 0 ∧ Aside0 (Below w.heap.size w wr)) (fun _ _ => 0)
  case atStart => exact ⟨rfl, ⟨Below.refl _ _⟩⟩
  case round =>
    obtain ⟨rfl, HB⟩ := hrel
    go_wp2
    go_ret
    exact ⟨rfl, HB.out⟩
set_option maxRecDepth 100000 in
theorem clonePerson_nil (w : World) :
    Calls Tryz.prog 76 #[.slice none 0 0] w fun e w' => e = .returned (.slice none 0 0) ∧ Below w.heap.size w w' := by
  have he := fun W => Lib.run_eql_slice_nil (P := Tryz.prog) W _ _ none 0 0 0 0 Tryz.underlying26
  go_enter Tryz.func76, Tryz.ntmps76
  go_wp2
  go_ret
  exact ⟨rfl, Below.refl _ _⟩
set_option maxRecDepth 100000 in
theorem eqClass_nil (w : World) (f : Value) :
    Calls Tryz.prog 91 #[.slice none 0 0, .slice none 0 0, f] w fun e w' => e = .returned (.bool true) ∧ Below w.heap.size w w' := by
  go_enter Tryz.func91, Tryz.ntmps91
  go_wp2
  go_loopw [17] (fun v17 wr => v17 = .int .i64 0 ∧ Aside0 (Below w.heap.size w wr)) (fun _ _ => 0)
  case atStart => exact ⟨rfl, ⟨Below.refl _ _⟩⟩
  case round =>
    obtain ⟨rfl, HB⟩ := hrel
    go_wp2
    go_ret
    exact ⟨rfl, HB.out⟩
set_option maxRecDepth 100000 in
theorem cloneClass_nil (w : World) :
    Calls Tryz.prog 77 #[.slice none 0 0] w fun e w' => e = .returned (.slice none 0 0) ∧ Below w.heap.size w w' := by
  have he := fun W => Lib.run_eql_slice_nil (P := Tryz.prog) W _ _ none 0 0 0 0 Tryz.underlying27
  go_enter Tryz.func77, Tryz.ntmps77
  go_wp2
  go_ret
  exact ⟨rfl, Below.refl _ _⟩
set_option maxRecDepth 100000 in
theorem eqCourse_nil (w : World) (f : Value) :
    Calls Tryz.prog 93 #[.slice none 0 0, .slice none 0 0, f] w fun e w' => e = .returned (.bool true) ∧ Below w.heap.size w w' := by
  go_enter Tryz.func93, Tryz.ntmps93
  go_wp2
  go_loopw [17] (fun v17 wr => v17 = .int .i64 0 ∧ Aside0 (Below w.heap.size w wr)) (fun _ _ => 0)
  case atStart => exact ⟨rfl, ⟨Below.refl _ _⟩⟩
  case round =>
    obtain ⟨rfl, HB⟩ := hrel
    go_wp2
    go_ret
    exact ⟨rfl, HB.out⟩
set_option maxRecDepth 100000 in
theorem cloneCourse_nil (w : World) :
    Calls Tryz.prog 81 #[.slice none 0 0] w fun e w' => e = .returned (.slice none 0 0) ∧ Below w.heap.size w w' := by
  have he := fun W => Lib.run_eql_slice_nil (P := Tryz.prog) W _ _ none 0 0 0 0 Tryz.underlying28
  go_enter Tryz.func81, Tryz.ntmps81
  go_wp2
  go_ret
  exact ⟨rfl, Below.refl _ _⟩
set_option maxRecDepth 100000 in
theorem eqStudent_nil (w : World) (f : Value) :
    Calls Tryz.prog 95 #[.slice none 0 0, .slice none 0 0, f] w fun e w' => e = .returned (.bool true) ∧ Below w.heap.size w w' := by
  go_enter Tryz.func95, Tryz.ntmps95
  go_wp2
  go_loopw [17] (fun v17 wr => v17 = .int .i64 0 ∧ Aside0 (Below w.heap.size w wr)) (fun _ _ => 0)
  case atStart => exact ⟨rfl, ⟨Below.refl _ _⟩⟩
  case round =>
    obtain ⟨rfl, HB⟩ := hrel
    go_wp2
    go_ret
    exact ⟨rfl, HB.out⟩
set_option maxRecDepth 100000 in
theorem cloneStudent_nil (w : World) :
    Calls Tryz.prog 83 #[.slice none 0 0] w fun e w' => e = .returned (.slice none 0 0) ∧ Below w.heap.size w w' := by
  have he := fun W => Lib.run_eql_slice_nil (P := Tryz.prog) W _ _ none 0 0 0 0 Tryz.underlying29
  go_enter Tryz.func83, Tryz.ntmps83
  go_wp2
  go_ret
  exact ⟨rfl, Below.refl _ _⟩
set_option maxRecDepth 100000 in
theorem eqRule_nil (w : World) (f : Value) :
    Calls Tryz.prog 97 #[.slice none 0 0, .slice none 0 0, f] w fun e w' => e = .returned (.bool true) ∧ Below w.heap.size w w' := by
  go_enter Tryz.func97, Tryz.ntmps97
  go_wp2
  go_loopw [17] (fun v17 wr => v17 = .int .i64 0 ∧ Aside0 (Below w.heap.size w wr)) (fun _ _ => 0)
  case atStart => exact ⟨rfl, ⟨Below.refl _ _⟩⟩
  case round =>
    obtain ⟨rfl, HB⟩ := hrel
    go_wp2
    go_ret
    exact ⟨rfl, HB.out⟩
set_option maxRecDepth 100000 in
theorem cloneRule_nil (w : World) :
    Calls Tryz.prog 84 #[.slice none 0 0] w fun e w' => e = .returned (.slice none 0 0) ∧ Below w.heap.size w w' := by
  have he := fun W => Lib.run_eql_slice_nil (P := Tryz.prog) W _ _ none 0 0 0 0 Tryz.underlying30
  go_enter Tryz.func84, Tryz.ntmps84
  go_wp2
  go_ret
  exact ⟨rfl, Below.refl _ _⟩
set_option maxRecDepth 100000 in
theorem indexClass_nil (w : World) (f : Value) :
    Calls Tryz.prog 151 #[.slice none 0 0, f] w fun e w' => e = .returned (.int .i64 (-1)) ∧ Below w.heap.size w w' := by
  go_enter Tryz.func151, Tryz.ntmps151
  go_wp2
  go_loopw [8] (fun v8 wr => v8 = .int .i64 0 ∧ Aside0 (Below w.heap.size w wr)) (fun _ _ => 0)
  case atStart => exact ⟨rfl, ⟨Below.refl _ _⟩⟩
  case round =>
    obtain ⟨rfl, HB⟩ := hrel
    go_wp2
    go_ret
    exact ⟨rfl, HB.out⟩
set_option maxRecDepth 100000 in
theorem rows_nil (w : World) :
    Calls Tryz.prog 75 #[.slice none 0 0] w fun e w' => e = .returned (.slice none 0 0) ∧ Below w.heap.size w w' := by
  go_enter Tryz.func75, Tryz.ntmps75
  go_wp2_with (first | (go_at_call 138; refine (cloneRow_nil _).mono ?_; rintro e w1 ⟨rfl, hB⟩; have HB := Aside0.mk hB; clear hB))
  go_loopw [9] (fun v9 wr => v9 = .int .i64 0 ∧ Aside0 (Below w.heap.size w wr)) (fun _ _ => 0)
  case atStart => exact ⟨rfl, HB⟩
  case round =>
    clear HB
    obtain ⟨rfl, HB⟩ := hrel
    go_wp2
    go_ret
    exact ⟨rfl, HB.out⟩
end Go.Proofs.YtineikfhfmiidaaGreat.Pm

/- Words for maps that a call makes: block b of the world is a map that holds f (a function from keys to what they hold); what a look-up, a store, a delete and len do. Over whatever program. -/
namespace Go.Proofs.YtineikfhfmiidaaGreat.Mw
open Go Go.RowKit Go.Maps

/-- A kind of maps: the types' numbers, how keys and elements are written, and what they read as. -/
structure MK (P : Program) (κ ε : Type) where
  k : TypeId
  e : TypeId
  t : TypeId
  ek : κ → Value
  lk : κ → Lit
  ok : κ → Prop
  ev : ε → Value
  le : ε → DataW Unit
  oke : ε → Prop
  z : ε
  R : Value → Option (DataW Unit × List MemPlace)
  K : Keyed P k
  ht : P.underlying t = some (.map k e)
  hkey : ∀ a, ok a → keyOf P k (ek a) = some (lk a)
  hinj : ∀ a b, ok a → ok b → lk a = lk b → a = b
  hz : ∀ w, (zeroValue e).run P w = .ok (ev z) w
  hzo : oke z
  hR : ∀ x, oke x → R (ev x) = some (le x, [])
  hRi : ∀ v d ps x, R v = some (d, ps) → d = le x → v = ev x

/-- A function with one place turned. -/
def upd {κ ε : Type} [DecidableEq κ] (f : κ → Option ε) (a : κ) (x : Option ε) : κ → Option ε := fun b => if b = a then x else f b

section
variable {P : Program} {κ ε : Type}

theorem ownsMap_tight {P : Program} {k : TypeId} {R : Value → Option (DataW Unit × List MemPlace)} {w : World} {b n : Nat} {D : DataW Unit} (h : w.ownsMap P k R b n D) : w.ownsMap P k R b (Maps.size D) D := by
  obtain ⟨es, clock, hb, F, _, hD⟩ := h
  refine ⟨es, clock, hb, F, ?_, hD⟩
  rw [hD]
  simp [Maps.size, length_sorted]
/-- Block b is a map with m entries; at key a it holds f a. -/
def MIs (M : MK P κ ε) (w : World) (b m : Nat) (f : κ → Option ε) : Prop :=
  ∃ D : DataW Unit, w.ownsMap P M.k M.R b m D ∧ Maps.size D = m ∧ ∀ a, M.ok a → Maps.has D (M.lk a) = (f a).isSome ∧ D.atKey (M.lk a) (M.le M.z) = M.le ((f a).getD M.z)

variable {M : MK P κ ε} {w w' : World} {b m : Nat} {f : κ → Option ε}

theorem MIs.made (M : MK P κ ε) (w : World) : MIs M (w.alloc (.map #[] 0)) w.heap.size 0 (fun _ => none) :=
  ⟨.map [], World.ownsMap_made w P M.k M.R, rfl, fun _ _ => ⟨rfl, rfl⟩⟩
theorem MIs.kept (h : MIs M w b m f) {row : Option Nat} (hg : w.grownBy w' row) (hne : some b ≠ row) : MIs M w' b m f := by
  obtain ⟨D, ho, hs, hf⟩ := h
  exact ⟨D, ho.kept hg hne, hs, hf⟩
theorem MIs.alloc (h : MIs M w b m f) (o : Obj) : MIs M (w.alloc o) b m f := h.kept (World.grownBy_alloc w o none) (by simp)
theorem MIs.drew (h : MIs M w b m f) : MIs M w.drew b m f := h
theorem MIs.drewN (h : MIs M w b m f) (q : Nat) : MIs M (w.drewN q) b m f := by
  obtain ⟨D, ho, hs, hf⟩ := h
  obtain ⟨es, clock, hb, F, hsz, hD⟩ := ho
  exact ⟨D, ⟨es, clock, hb, F, hsz, hD⟩, hs, hf⟩
theorem MIs.lt (h : MIs M w b m f) : b < w.heap.size := by
  obtain ⟨D, ho, _⟩ := h
  exact ho.lt
theorem MIs.below {B : Nat} (h : MIs M w b m f) (hb : Below B w w') (hB : b < B) : MIs M w' b m f := by
  obtain ⟨D, ⟨es, clock, hbk, F, hsz, hD⟩, hs, hf⟩ := h
  exact ⟨D, ⟨es, clock, (hb.block b hB).trans hbk, F, hsz, hD⟩, hs, hf⟩
theorem MIs.setCell (h : MIs M w b m f) {a : Addr} (ha : b ≠ a.block) (u : Value) : MIs M (w.setCell a u) b m f := by
  obtain ⟨D, ho, hs, hf⟩ := h
  exact ⟨D, ho.setCell ha u, hs, hf⟩
theorem MIs.ext (h : MIs M w b m f) {g : κ → Option ε} (hg : ∀ a, M.ok a → g a = f a) : MIs M w b m g := by
  obtain ⟨D, ho, hs, hf⟩ := h
  exact ⟨D, ho, hs, fun a ha => by rw [hg a ha]; exact hf a ha⟩

/-- A look-up. -/
theorem MIs.run_look (h : MIs M w b m f) (a : κ) (ha : M.ok a) : (Instr.lookup M.t (.map (some b)) (M.ek a) false).run P w = .ok (M.ev ((f a).getD M.z)) w := by
  obtain ⟨D, ho, hs, hf⟩ := h
  obtain ⟨v, ps, hrun, hv⟩ := ho.lookup M.K M.ht (M.hz w) (M.hR _ M.hzo) (M.hkey a ha)
  rw [(hf a ha).2] at hv
  rw [hrun, M.hRi _ _ _ _ hv rfl]
/-- A look-up that says whether the key is there. -/
theorem MIs.run_look_ok (h : MIs M w b m f) (a : κ) (ha : M.ok a) : (Instr.lookup M.t (.map (some b)) (M.ek a) true).run P w = .ok (.tuple #[M.ev ((f a).getD M.z), .bool (f a).isSome]) w := by
  obtain ⟨D, ho, hs, hf⟩ := h
  obtain ⟨v, ps, hrun, hv⟩ := ho.look_ok M.K M.ht (M.hz w) (M.hR _ M.hzo) (M.hkey a ha)
  rw [(hf a ha).2] at hv
  rw [hrun, M.hRi _ _ _ _ hv rfl, (hf a ha).1]
theorem MIs.run_len (h : MIs M w b m f) (ty : TypeId) : (Builtin.len_ #[M.t] ty #[.map (some b)]).run P w = .ok (.int .i64 (m : Int)) w := by
  obtain ⟨D, ho, hs, hf⟩ := h
  rw [ho.len M.ht ty, hs]
/-- A store. -/
theorem MIs.run_put [DecidableEq κ] (h : MIs M w b m f) (hn : m < maxLen) (a : κ) (ha : M.ok a) (x : ε) (hx : M.oke x) :
    ∃ w', (Instr.mapUpdate M.t (.map (some b)) (M.ek a) (M.ev x)).run P w = .ok () w' ∧ MIs M w' b (if (f a).isSome then m else m + 1) (upd f a (some x)) ∧ w.grownBy w' (some b) := by
  obtain ⟨D, ho, hs, hf⟩ := h
  obtain ⟨w', hrun, ho', ht⟩ := ho.store M.K M.ht hn (M.hkey a ha) (M.hR x hx)
  have hk := M.K.key (M.hkey a ha)
  have hsz : Maps.size (D.put (M.lk a) (M.le x)) = if (f a).isSome then m else m + 1 := by rw [size_put (ho.tidy M.K), (hf a ha).1, hs]
  refine ⟨w', hrun, ⟨_, hsz ▸ ownsMap_tight ho', hsz, fun c hc => ?_⟩, ht.grown⟩
  · unfold upd
    by_cases hca : c = a
    · subst hca
      rw [if_pos rfl, has_put_same ho.isMap hk, atKey_put_same ho.isMap hk]
      exact ⟨rfl, rfl⟩
    · rw [if_neg hca]
      have hne : M.lk c ≠ M.lk a := fun e => hca (M.hinj c a hc ha e)
      rw [has_put_other hne, atKey_put_other hne]
      exact hf c hc
/-- A delete. -/
theorem MIs.run_del [DecidableEq κ] (h : MIs M w b m f) (a : κ) (ha : M.ok a) (ty : TypeId) :
    ∃ w', (Builtin.delete_ #[M.t, M.k] ty #[.map (some b), M.ek a]).run P w = .ok (.tuple #[]) w' ∧ MIs M w' b (if (f a).isSome then m - 1 else m) (upd f a none) ∧ w.grownBy w' (some b) := by
  obtain ⟨D, ho, hs, hf⟩ := h
  obtain ⟨w', hrun, ho', ht⟩ := ho.drop M.K M.ht (M.hkey a ha) ty
  have hk := M.K.key (M.hkey a ha)
  have hsz : Maps.size (D.del (M.lk a)) = if (f a).isSome then m - 1 else m := by
    have h1 := size_del (k := M.lk a) (ho.tidy M.K)
    rw [(hf a ha).1, hs] at h1
    split at h1 <;> simp_all <;> omega
  refine ⟨w', hrun, ⟨_, hsz ▸ ownsMap_tight ho', hsz, fun c hc => ?_⟩, ht.grown⟩
  · unfold upd
    by_cases hca : c = a
    · subst hca
      rw [if_pos rfl, has_del_same, atKey_del_same]
      exact ⟨rfl, rfl⟩
    · rw [if_neg hca]
      have hne : M.lk c ≠ M.lk a := fun e => hca (M.hinj c a hc ha e)
      rw [has_del_other hne, atKey_del_other hne]
      exact hf c hc
end

section
variable {P : Program} {κ ε : Type} {M : MK P κ ε} {w : World} {b m : Nat} {f : κ → Option ε} {ops : Array Oper} {rest : List Oper} {o : Oper} {a : Act} {Q : Exit → Act → World → Prop}

/-- At the operation, for the walk. -/
theorem wl_look (h : MIs M w b m f) (hg : o.guard = none) (mo x : Operand) (hop : o.op = Op.lookup M.t mo x false) (hm : a.eval mo = .map (some b)) (c : κ) (hc : M.ok c) (hx : a.eval x = M.ek c)
    (hK : wpList P ops Q rest (a.put o.dst (M.ev ((f c).getD M.z))) w) : wpList P ops Q (o :: rest) a w := by
  refine wpList_plain hg fun K' hK' => ?_
  unfold Oper.wp
  simp [execOp, hop, hm, hx, h.run_look c hc, Result.andThen]
  exact hK' _ _ hK
theorem wl_look_ok (h : MIs M w b m f) (hg : o.guard = none) (mo x : Operand) (hop : o.op = Op.lookup M.t mo x true) (hm : a.eval mo = .map (some b)) (c : κ) (hc : M.ok c) (hx : a.eval x = M.ek c)
    (hK : wpList P ops Q rest (a.put o.dst (.tuple #[M.ev ((f c).getD M.z), .bool (f c).isSome])) w) : wpList P ops Q (o :: rest) a w := by
  refine wpList_plain hg fun K' hK' => ?_
  unfold Oper.wp
  simp [execOp, hop, hm, hx, h.run_look_ok c hc, Result.andThen]
  exact hK' _ _ hK
theorem wl_look1 (h : MIs M w b m f) (hg : o.guard = none) (mo x : Operand) (hop : o.op = Op.lookup M.t mo x false) (hm : a.eval mo = .map (some b)) (c : κ) (hc : M.ok c) (hx : a.eval x = M.ek c) (y : ε) (hf : (f c).getD M.z = y) (v : Value) (hv : M.ev y = v)
    (hK : wpList P ops Q rest (a.put o.dst v) w) : wpList P ops Q (o :: rest) a w := by
  subst hf
  subst hv
  exact wl_look h hg mo x hop hm c hc hx hK
theorem wl_ok1 (h : MIs M w b m f) (hg : o.guard = none) (mo x : Operand) (hop : o.op = Op.lookup M.t mo x true) (hm : a.eval mo = .map (some b)) (c : κ) (hc : M.ok c) (hx : a.eval x = M.ek c) (y : ε) (hf : (f c).getD M.z = y) (q : Bool) (hq : (f c).isSome = q) (v : Value) (hv : M.ev y = v)
    (hK : wpList P ops Q rest (a.put o.dst (.tuple #[v, .bool q])) w) : wpList P ops Q (o :: rest) a w := by
  subst hf
  subst hv
  subst hq
  exact wl_look_ok h hg mo x hop hm c hc hx hK
theorem wl_len (h : MIs M w b m f) (hg : o.guard = none) (mo : Operand) (hop : o.op = Op.call { callee := Callee.builtin Builtin.len, args := #[mo], argTypes := #[M.t] }) (hm : a.eval mo = .map (some b))
    (hK : wpList P ops Q rest (a.put o.dst (.int .i64 (m : Int))) w) : wpList P ops Q (o :: rest) a w := by
  refine wpList_plain hg fun K' hK' => ?_
  unfold Oper.wp
  simp [execOp, hop, resolve, invoke, builtin, hm, h.run_len o.type, Result.andThen]
  exact hK' _ _ hK
theorem wl_put [DecidableEq κ] (h : MIs M w b m f) (hg : o.guard = none) (mo x v : Operand) (hop : o.op = Op.mapUpdate M.t mo x v) (hm : a.eval mo = .map (some b)) (hn : m < maxLen) (c : κ) (hc : M.ok c) (hx : a.eval x = M.ek c) (y : ε) (hy : M.oke y) (hv : a.eval v = M.ev y)
    (hK : ∀ w', MIs M w' b (if (f c).isSome then m else m + 1) (upd f c (some y)) → w.grownBy w' (some b) → wpList P ops Q rest (a.put o.dst undef) w') : wpList P ops Q (o :: rest) a w := by
  refine wpList_plain hg fun K' hK' => ?_
  obtain ⟨w', hrun, r1, r2⟩ := h.run_put hn c hc y hy
  unfold Oper.wp
  simp [execOp, hop, hm, hx, hv, hrun, Result.andThen]
  exact hK' _ _ (hK w' r1 r2)
theorem wl_del [DecidableEq κ] (h : MIs M w b m f) (hg : o.guard = none) (mo x : Operand) (hop : o.op = Op.call { callee := Callee.builtin Builtin.delete, args := #[mo, x], argTypes := #[M.t, M.k] }) (hm : a.eval mo = .map (some b)) (c : κ) (hc : M.ok c) (hx : a.eval x = M.ek c)
    (hK : ∀ w', MIs M w' b (if (f c).isSome then m - 1 else m) (upd f c none) → w.grownBy w' (some b) → wpList P ops Q rest (a.put o.dst (.tuple #[])) w') : wpList P ops Q (o :: rest) a w := by
  refine wpList_plain hg fun K' hK' => ?_
  obtain ⟨w', hrun, r1, r2⟩ := h.run_del c hc o.type
  unfold Oper.wp
  simp [execOp, hop, resolve, invoke, builtin, hm, hx, hrun, Result.andThen]
  exact hK' _ _ (hK w' r1 r2)
end

/-- Maps from numbers (int) to bools. -/
def intBool (P : Program) (k e t : TypeId) (hk : P.underlying k = some (.int .i64)) (he : P.underlying e = some .bool) (ht : P.underlying t = some (.map k e)) (hz : ∀ w, (zeroValue e).run P w = .ok (.bool false) w) : MK P Int Bool where
  k := k
  e := e
  t := t
  ek := .int .i64
  lk := .int .i64
  ok := fun a => (Lit.int .i64 a).wf = true
  ev := .bool
  le := fun x => .lit (.bool x)
  oke := fun _ => True
  z := false
  R := plainElem P e
  K := int_keyed hk
  ht := ht
  hkey := fun a ha => keyOf_int_mk hk ha
  hinj := fun a b _ _ h => by injection h
  hz := hz
  hzo := trivial
  hR := fun x _ => plainElem_bool he x
  hRi := fun v d ps x h hd => by
    subst hd
    unfold plainElem at h
    rw [he] at h
    cases v <;> simp at h
    rw [h.1]
/-- Maps from numbers to numbers. -/
def intInt (P : Program) (k e t : TypeId) (hk : P.underlying k = some (.int .i64)) (he : P.underlying e = some (.int .i64)) (ht : P.underlying t = some (.map k e)) (hz : ∀ w, (zeroValue e).run P w = .ok (.int .i64 0) w) : MK P Int Int where
  k := k
  e := e
  t := t
  ek := .int .i64
  lk := .int .i64
  ok := fun a => (Lit.int .i64 a).wf = true
  ev := .int .i64
  le := fun x => .lit (.int .i64 x)
  oke := fun a => (Lit.int .i64 a).wf = true
  z := 0
  R := plainElem P e
  K := int_keyed hk
  ht := ht
  hkey := fun a ha => keyOf_int_mk hk ha
  hinj := fun a b _ _ h => by injection h
  hz := hz
  hzo := by decide
  hR := fun x hx => plainElem_int he hx
  hRi := fun v d ps x h hd => by
    subst hd
    obtain ⟨c, rfl, hc, _⟩ := plainElem_int_inv he h
    injection hc with hc
    injection hc with hc
    injection hc with _ hc
    rw [hc]
/-- Maps from strings to bools. -/
def strBool (P : Program) (k e t : TypeId) (hk : P.underlying k = some .string) (he : P.underlying e = some .bool) (ht : P.underlying t = some (.map k e)) (hz : ∀ w, (zeroValue e).run P w = .ok (.bool false) w) : MK P ByteArray Bool where
  k := k
  e := e
  t := t
  ek := .string
  lk := fun s => .string s.data.toList
  ok := fun s => s.size ≤ maxLen
  ev := .bool
  le := fun x => .lit (.bool x)
  oke := fun _ => True
  z := false
  R := plainElem P e
  K := string_keyed hk
  ht := ht
  hkey := fun a ha => Go.WideMaps.keyOf_string_mk hk ha
  hinj := fun a b _ _ h => by
    injection h with h
    cases a; cases b
    congr 1
    exact Array.toList_inj.1 h
  hz := hz
  hzo := trivial
  hR := fun x _ => plainElem_bool he x
  hRi := fun v d ps x h hd => by
    subst hd
    unfold plainElem at h
    rw [he] at h
    cases v <;> simp at h
    rw [h.1]
theorem wf64 {a : Int} (h0 : -9223372036854775808 ≤ a) (h1 : a ≤ 9223372036854775807) : (Lit.int .i64 a).wf = true := Go.WalkArith.wf_i64 ⟨h0, h1⟩
end Go.Proofs.YtineikfhfmiidaaGreat.Mw

/- Rules: problem.Rule and the document's Rule tell the same. -/
namespace Go.Proofs.YtineikfhfmiidaaGreat.Pm
open Go Go.RowKit Go.Proofs.YtineikfhfmiidaaGreat.Gp Go.Proofs.YtineikfhfmiidaaGreat.Mw Go.Proofs.YtineikfhfmiidaaGreatW.PrintWords Go.Proofs.YtineikfhfmiidaaGreatW.PrintLast Go.Proofs.YtineikfhfmiidaaGreatW.PrintMore
set_option linter.unusedVariables false
set_option linter.unusedSimpArgs false
theorem within_eq (a b c : Int) : many_within.f a b c = some (decide (b ≤ a) && decide (a ≤ c)) := by
  unfold many_within.f
  by_cases h : b ≤ a <;> simp [h]
theorem from_eq (a b c : Int) : horariumref16_from.f a b c = some (decide (b ≤ a) && decide (a ≤ c)) := by
  unfold horariumref16_from.f
  by_cases h : b ≤ a <;> simp [h]
def kp (k : Int) : Bool := decide (1 ≤ k) && decide (k ≤ 14)
def km (k : Int) : Bool := decide (21 ≤ k) && decide (k ≤ 24)
theorem kp15 (k : Int) : horariumref15_Known.f k = some (kp k) := by
  unfold horariumref15_Known.f kp
  by_cases h : 1 ≤ k <;> simp [h]
theorem kp_pair (k : Int) : pair_Known.f k = some (kp k) := by
  unfold pair_Known.f kp
  by_cases h : 1 ≤ k <;> simp [h]
theorem km16 (k : Int) : horariumref16_Known.f k = some (km k) := by
  unfold horariumref16_Known.f km
  by_cases h : 21 ≤ k <;> simp [h]
theorem km_many (k : Int) : many_Known.f k = some (km k) := by
  unfold many_Known.f km
  by_cases h : 21 ≤ k <;> simp [h]
theorem nums_some (k a b : Int) : ∃ r, many_Right.f 5 k a b = some r := by
  unfold many_Right.f
  simp only [many_Right.j0, within_eq, Option.bind_some]
  repeat' split
  all_goals exact ⟨_, rfl⟩
/-- May these be a rule's numbers? -/
def numsOk (k a b : Int) : Bool := (many_Right.f 5 k a b).getD false
theorem nums_many (k a b : Int) : many_Right.f 5 k a b = some (numsOk k a b) := by
  obtain ⟨r, hr⟩ := nums_some k a b
  unfold numsOk
  rw [hr]
  rfl
theorem nums16 (k a b : Int) : horariumref16_Right.f 5 k a b = some (numsOk k a b) := by
  rw [← nums_many]
  unfold many_Right.f horariumref16_Right.f
  simp only [many_Right.j0, horariumref16_Right.j0, within_eq, from_eq, kp15, kp, Option.bind_some]
/-- Are numbers from 0 below n, each once? -/
def dstB (n : Int) (cs : List Int) : Bool := cs.all (fun x => decide (0 ≤ x) && decide (x < n)) && decide cs.Nodup
structure DstTo (n : Int) (cs : List Int) (i : Nat) : Prop where
  inn : ∀ x ∈ cs.take i, 0 ≤ x ∧ x < n
  one : (cs.take i).Nodup
theorem take1 (l : List Int) (i : Nat) (hi : i < l.length) : l.take (i + 1) = l.take i ++ [l.getD i 0] := by
  rw [List.take_add_one, List.getD_eq_getElem?_getD, List.getElem?_eq_getElem hi]
  rfl
theorem memD (l : List Int) (i : Nat) (hi : i < l.length) : l.getD i 0 ∈ l := by
  rw [List.getD_eq_getElem?_getD, List.getElem?_eq_getElem hi]
  exact List.getElem_mem hi
theorem DstTo.start (n : Int) (cs : List Int) : DstTo n cs 0 := ⟨by simp, by simp⟩
theorem DstTo.step {n : Int} {cs : List Int} {i : Nat} (h : DstTo n cs i) (hi : i < cs.length) (h0 : 0 ≤ cs.getD i 0) (h1 : cs.getD i 0 < n) (h2 : cs.getD i 0 ∉ cs.take i) : DstTo n cs (i + 1) := by
  refine ⟨fun x hx => ?_, ?_⟩
  · rw [take1 cs i hi] at hx
    rcases List.mem_append.1 hx with h3 | h3
    · exact h.inn x h3
    · rw [List.mem_singleton.1 h3]; exact ⟨h0, h1⟩
  · rw [take1 cs i hi, List.nodup_append]
    refine ⟨h.one, by simp, fun y hy z hz => ?_⟩
    rw [List.mem_singleton] at hz
    rintro rfl
    exact h2 (hz ▸ hy)
theorem DstTo.over {n : Int} {cs : List Int} (h : DstTo n cs cs.length) : dstB n cs = true := by
  have h1 := h.inn
  have h2 := h.one
  rw [List.take_length] at h1 h2
  unfold dstB
  rw [Bool.and_eq_true, List.all_eq_true]
  exact ⟨fun x hx => by rw [Bool.and_eq_true]; exact ⟨decide_eq_true (h1 x hx).1, decide_eq_true (h1 x hx).2⟩, decide_eq_true h2⟩
theorem dst_bad {n : Int} {cs : List Int} {i : Nat} (hi : i < cs.length) (h : cs.getD i 0 < 0 ∨ n ≤ cs.getD i 0 ∨ cs.getD i 0 ∈ cs.take i) : dstB n cs = false := by
  cases hd : dstB n cs with
  | false => rfl
  | true =>
    unfold dstB at hd
    rw [Bool.and_eq_true, List.all_eq_true, decide_eq_true_iff] at hd
    obtain ⟨h1, h2⟩ := hd
    have h3 := h1 _ (memD cs i hi)
    rw [Bool.and_eq_true, decide_eq_true_iff, decide_eq_true_iff] at h3
    rcases h with h | h | h
    · omega
    · omega
    · exfalso
      have h4 : (cs.take (i + 1)).Nodup := h2.sublist (List.take_sublist _ _)
      rw [take1 cs i hi, List.nodup_append] at h4
      exact h4.2.2 _ h _ (List.mem_singleton.2 rfl) rfl
/-- What the map of the numbers seen holds. -/
def SeenI (cs : List Int) (i : Nat) (f : Int → Option Bool) : Prop := ∀ x, f x = if x ∈ cs.take i then some true else none
theorem SeenI.start (cs : List Int) : SeenI cs 0 (fun _ => none) := fun x => by simp
theorem SeenI.step {cs : List Int} {i : Nat} {f : Int → Option Bool} (h : SeenI cs i f) (hi : i < cs.length) : SeenI cs (i + 1) (upd f (cs.getD i 0) (some true)) := by
  intro x
  unfold upd
  rw [take1 cs i hi]
  by_cases e : x = cs.getD i 0
  · rw [if_pos e, if_pos (List.mem_append_right _ (List.mem_singleton.2 e))]
  · rw [if_neg e, h x]
    by_cases hm : x ∈ cs.take i
    · rw [if_pos hm, if_pos (List.mem_append_left _ hm)]
    · rw [if_neg hm, if_neg (fun h2 => ?_)]
      rcases List.mem_append.1 h2 with h3 | h3
      · exact hm h3
      · exact e (List.mem_singleton.1 h3)
theorem zeroB (w : World) : (zeroValue 4).run Tryz.prog w = .ok (.bool false) w := by kernel_rfl
noncomputable def MIB : MK Tryz.prog Int Bool := intBool Tryz.prog 3 4 157 Tryz.underlying3 Tryz.underlying4 Tryz.underlying157 zeroB
theorem int_cell {w : World} {A : Option Addr} {l : List Int} (hC : (Kd.int .i64).C w A l.length l) {i : Nat} {x : Int} (hi : i < l.length) (hx : x = l.getD i 0) : ∃ ad, A = some ad ∧ w.cell? (ad.add i) = some (.int .i64 x) := by
  obtain ⟨ad', e, hcell⟩ := Kd.at_int hC (i : Int) (by omega) (by omega)
  refine ⟨ad', e, ?_⟩
  rw [Int.toNat_natCast] at hcell
  rw [hcell, hx]
  unfold rd
  rw [Int.toNat_natCast]
set_option maxRecDepth 100000 in
set_option maxHeartbeats 1000000 in
theorem distinct_is (w : World) (A : Option Addr) (m c : Nat) (cs : List Int) (n : Int) (hm : cs.length = m) (hC : (Kd.int .i64).C w A cs.length cs) (hc : m ≤ c) (hl : m ≤ 400) (hn : n ≤ 9223372036854775807) :
    Calls Tryz.prog 120 #[.slice A m c, .int .i64 n] w fun e w' => e = .returned (.bool (dstB n cs)) ∧ Below w.heap.size w w' := by
  have HC := Aside0.mk hC
  have HM := Aside0.mk hm
  clear hC hm
  have hmm := @run_makeMap Tryz.prog
  go_enter Tryz.func120, Tryz.ntmps120
  go_wp2
  go_loopw [11] (fun v11 wr => ∃ (i : Nat) (f : Int → Option Bool) (s : Nat), i ≤ m ∧ v11 = .int .i64 i ∧ Aside0 (DstTo n cs i) ∧ Aside0 (SeenI cs i f) ∧ Aside0 (s ≤ i) ∧ Aside0 (MIs MIB wr w.heap.size s f) ∧ Aside0 (Below w.heap.size w wr)) (fun v11 _ => m - (intOf v11).toNat)
  case atStart => exact ⟨0, fun _ => none, 0, Nat.zero_le _, rfl, ⟨DstTo.start _ _⟩, ⟨SeenI.start _⟩, ⟨Nat.le_refl _⟩, ⟨MIs.made MIB w⟩, ⟨below_alloc (Below.refl _ _) _⟩⟩
  case round =>
    clear hmm
    obtain ⟨i, f, s, hi, rfl, HD, HF, HS, HMp, HB⟩ := hrel
    by_cases him : i < m
    · have hic : i < cs.length := by have := HM.out; omega
      obtain ⟨x, hx⟩ : ∃ x, x = cs.getD i 0 := ⟨_, rfl⟩
      obtain ⟨ad, rfl, hcell⟩ := int_cell (Kd.C_below HC.out HB.out) hic hx
      have him2 : (i : Int) < (m : Int) := by omega
      have HX := Aside0.mk (And.intro hx hic)
      clear hx hic
      by_cases h0 : x < 0
      · have HR := Aside0.mk (dst_bad (n := n) HX.out.2 (Or.inl (by rw [← HX.out.1]; exact h0)))
        go_wp2
        go_ret
        rw [HR.out]
        exact ⟨rfl, HB.out⟩
      · have h0' : decide (x < 0) = false := decide_eq_false h0
        by_cases h1 : n ≤ x
        · have HR := Aside0.mk (dst_bad (n := n) HX.out.2 (Or.inr (Or.inl (by rw [← HX.out.1]; exact h1))))
          go_wp2
          go_ret
          rw [HR.out]
          exact ⟨rfl, HB.out⟩
        · have h1' : decide (n ≤ x) = false := decide_eq_false h1
          have hok : MIB.ok x := wf64 (by omega) (by omega)
          have HOK := Aside0.mk hok
          clear hok
          by_cases h2 : x ∈ cs.take i
          · have HR := Aside0.mk (dst_bad (n := n) HX.out.2 (Or.inr (Or.inr (by rw [← HX.out.1]; exact h2))))
            have hfx : f x = some true := by rw [HF.out x, if_pos h2]
            have hlook : (Instr.lookup 157 (.map (some w.heap.size)) (.int .i64 x) false).run Tryz.prog wr = .ok (.bool true) wr := by
              have := HMp.out.run_look x HOK.out
              rw [hfx] at this
              exact this
            clear hfx h2
            go_wp2
            go_ret
            rw [HR.out]
            exact ⟨rfl, HB.out⟩
          · have hfx : f x = none := by rw [HF.out x, if_neg h2]
            have hlook : (Instr.lookup 157 (.map (some w.heap.size)) (.int .i64 x) false).run Tryz.prog wr = .ok (.bool false) wr := by
              have := HMp.out.run_look x HOK.out
              rw [hfx] at this
              exact this
            have HD2 := Aside0.mk (HD.out.step HX.out.2 (by rw [← HX.out.1]; omega) (by rw [← HX.out.1]; omega) (by rw [← HX.out.1]; exact h2))
            have HF2 := Aside0.mk (HF.out.step HX.out.2)
            rw [← HX.out.1] at HF2
            have HFx := Aside0.mk hfx
            clear hfx h2
            go_wp2_with (first
              | (at_mapUpdate; refine wl_put HMp.out rfl _ _ _ rfl rfl (by have := HS.out; unfold maxLen; omega) x HOK.out rfl true trivial rfl ?_; intro w2 hM2 hg2))
            rw [HFx.out] at hM2
            exact ⟨⟨i + 1, _, s + 1, by omega, by go_num, HD2, HF2, ⟨by have := HS.out; omega⟩, ⟨hM2⟩, ⟨HB.out.grown hg2 HB.out.size (fun q e => by cases e; exact Nat.le_refl _)⟩⟩, by simp [intOf]; omega⟩
    · obtain rfl : i = m := by omega
      have HR := Aside0.mk (show dstB n cs = true from DstTo.over (by rw [HM.out]; exact HD.out))
      go_wp2
      go_ret
      rw [HR.out]
      exact ⟨rfl, HB.out⟩
/-- May a rule be, among n classes? -/
def ruleOk (n k : Int) (cs : List Int) (a b : Int) (hard : Bool) (cost : Int) : Bool :=
  (kp k || km k) && numsOk k a b && decide (2 ≤ cs.length) && decide (cs.length ≤ 12) && dstB n cs && (if hard then decide (cost = 0) else decide (1 ≤ cost) && decide (cost ≤ 1000))
theorem cost_eq (x : Int) : problem_cost.f x = some (decide (0 ≤ x) && decide (x ≤ 1000)) := by
  unfold problem_cost.f
  by_cases h : 0 ≤ x <;> simp [h]
/-- A block of the call's own with these cells. -/
structure PBox (w wr : World) (g : Nat) (t : TypeId) (cs : Array Value) : Prop where
  blk : wr.heap[g]? = some (.cells cs t (0, 0))
  bel : Below w.heap.size w wr
  ge : w.heap.size ≤ g
theorem PBox.below {w wr w1 : World} {g : Nat} {t : TypeId} {cs : Array Value} (h : PBox w wr g t cs) (hB : Below wr.heap.size wr w1) : PBox w w1 g t cs :=
  ⟨(hB.block g (Array.getElem?_eq_some_iff.1 h.blk).1).trans h.blk, below_then h.bel h.bel.size hB, h.ge⟩
theorem PBox.cell {w wr : World} {g : Nat} {t : TypeId} {cs : Array Value} (h : PBox w wr g t cs) (i : Nat) {v : Value} (hv : cs[i]? = some v) : wr.cell? ⟨g, i, none⟩ = some v := (blk_cell h.blk i).trans hv
end Go.Proofs.YtineikfhfmiidaaGreat.Pm

/- The document's Has: is a number in a row. -/
namespace Go.Proofs.YtineikfhfmiidaaGreat.Pm
open Go Go.RowKit Go.Proofs.YtineikfhfmiidaaGreat.Gp Go.Proofs.YtineikfhfmiidaaGreatW.PrintWords Go.Proofs.YtineikfhfmiidaaGreatW.PrintLast Go.Proofs.YtineikfhfmiidaaGreatW.PrintMore
set_option linter.unusedVariables false
set_option linter.unusedSimpArgs false
theorem rd_nat (l : List Int) (n : Nat) : rd l (n : Int) = l.getD n 0 := by unfold rd; rw [Int.toNat_natCast]
theorem wr1 {i : Nat} (h : i < 9223372036854775807) : wrap64 ((i : Int) + 1) = ((i + 1 : Nat) : Int) := by unfold wrap64; omega
theorem among_ev (l : List Int) (x : Int) (hl : l.length ≤ 9223372036854775807) : ∀ d i : Nat, d + i = l.length → (∀ j, j < i → l.getD j 0 ≠ x) → Ev (fun k => horariumref14_Has.l0 k l x (i : Int)) (l.contains x) := by
  intro d
  induction d with
  | zero =>
    intro i hi hj
    have : l.contains x = false := by
      rw [List.contains_eq_mem]
      refine decide_eq_false (fun hm => ?_)
      obtain ⟨j, h1, h2⟩ := List.getElem_of_mem hm
      refine hj j (by omega) ?_
      rw [List.getD_eq_getElem?_getD, List.getElem?_eq_getElem h1]
      exact h2
    rw [this]
    refine Ev.step (f := fun _ => some false) (fun k => ?_) (Ev.now false)
    simp only [horariumref14_Has.l0]
    rw [if_neg (by omega)]
  | succ d ih =>
    intro i hi hj
    by_cases he : l.getD i 0 = x
    · have : l.contains x = true := by
        rw [List.contains_eq_mem]
        refine decide_eq_true ?_
        rw [← he, List.getD_eq_getElem?_getD, List.getElem?_eq_getElem (by omega : i < l.length)]
        exact List.getElem_mem _
      rw [this]
      refine Ev.step (f := fun _ => some true) (fun k => ?_) (Ev.now true)
      simp only [horariumref14_Has.l0]
      rw [if_pos (by omega), if_pos (by omega), rd_nat, if_pos he]
    · refine Ev.step (fun k => ?_) (ih (i + 1) (by omega) (fun j h => ?_))
      · simp only [horariumref14_Has.l0]
        rw [if_pos (by omega), if_pos (by omega), rd_nat, if_neg he, wr1 (by omega)]
      · by_cases e : j = i
        · rw [e]; exact he
        · exact hj j (by omega)
theorem among_f (l : List Int) (x : Int) (hl : l.length ≤ 9223372036854775807) : Ev (fun k => horariumref14_Has.f k l x) (l.contains x) := among_ev l x hl l.length 0 rfl (fun j hj => by omega)
theorem HasL_is (w : World) (A : Option Addr) (m c : Nat) (l : List Int) (x : Int) (hm : l.length = m) (hC : (Kd.int .i64).C w A l.length l) (hc : m ≤ c) :
    Calls Tryz.prog 158 #[.slice A m c, .int .i64 x] w fun e w' => e = .returned (.bool (l.contains x)) ∧ Drawn0 w w' := by
  subst hm
  obtain ⟨k, hk⟩ := (among_f l x (Kd.C_max hC)).rounds
  exact horariumref14_Has.calls k A c l x _ w hC hc hk
theorem HasL_q (w : World) (A : Option Addr) (m c : Nat) (l : List Int) (x : Int) (r : Bool) (hm : l.length = m) (hC : (Kd.int .i64).C w A l.length l) (hc : m ≤ c) (hr : l.contains x = r) (k : Nat) :
    Calls Tryz.prog 158 #[.slice A m c, .int .i64 x] (w.drewN k) fun e w' => e = .returned (.bool r) ∧ ∃ q, w' = (w.drewN k).drewN q := by
  subst hr
  refine (HasL_is (w.drewN k) A m c l x hm (Kd.C_drewN hC k) hc).mono ?_
  rintro e w' ⟨he, hD⟩
  exact ⟨he, hD.out⟩
theorem infoI : (Tryz.prog.info? 3).map (fun i => (i.zero, i.size, i.bytes)) = some (some (.int .i64 0), 1, 8) := by kernel_rfl
theorem cutT (A : Option Addr) (n c i : Nat) (hi : i ≤ n) (hc : n ≤ c) (W : World) : (Instr.slice 51 (.slice A n c) none (some (.int .i64 (i : Int))) none).run Tryz.prog W = .ok (.slice A i c) W := by
  obtain ⟨i0, hi0, hz0, hz1, hz2⟩ := info_parts infoI
  exact cut_to 51 3 .i64 Tryz.underlying51 hi0 A n c (i : Int) (by omega) (by omega) hc W
end Go.Proofs.YtineikfhfmiidaaGreat.Pm
