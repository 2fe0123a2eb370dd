import Derived.Test.YtineikfhfmiidaaGpA
import Derived.Deep.RegionHeld3
import Derived.Deep.DeepCutAuto
import Derived.Outline
import Derived.Lib.Hide
import Derived.WalkSpells
import Derived.Maps.OwnSet
import Derived.Maps.OwnOps
import Derived.Test.YtineikfhfmiidaaWMore
import Derived.Laws.Strings
/- Package problem's helpers at empty rows. -/
namespace Go.Proofs.Ytineikfhfmiidaa.Pm
open Go Go.RowKit Go.Proofs.Ytineikfhfmiidaa.Gp Go.Proofs.YtineikfhfmiidaaW.PrintWords Go.Proofs.YtineikfhfmiidaaW.PrintLast Go.Proofs.YtineikfhfmiidaaW.PrintMore
set_option linter.unusedVariables false
set_option linter.unusedSimpArgs false
set_option maxRecDepth 100000 in
theorem badRoom_nil (w : World) (m : Int) (f g : Value) :
    Calls Try.prog 27 #[.slice none 0 0, .int .i64 m, f, g] w fun e w' => e = .returned (.tuple #[.int .i64 0, .bool false]) ∧ Below w.heap.size w w' := by
  have hmm := @run_makeMap Try.prog
  go_enter Try.func27, Try.ntmps27
  go_wp2
  go_loopw [16] (fun v16 wr => v16 = .int .i64 0 ∧ Aside0 (Below w.heap.size w wr)) (fun _ _ => 0)
  case atStart => exact ⟨rfl, ⟨below_alloc (Below.refl _ _) _⟩⟩
  case round =>
    obtain ⟨rfl, HB⟩ := hrel
    go_wp2
    refine bodyPost_ret (results_tmp2 rfl _ _ _) rfl ?_
    exact ⟨rfl, HB.out⟩
set_option maxRecDepth 100000 in
theorem badPerson_nil (w : World) (m : Int) (f g : Value) :
    Calls Try.prog 32 #[.slice none 0 0, .int .i64 m, f, g] w fun e w' => e = .returned (.tuple #[.int .i64 0, .bool false]) ∧ Below w.heap.size w w' := by
  have hmm := @run_makeMap Try.prog
  go_enter Try.func32, Try.ntmps32
  go_wp2
  go_loopw [16] (fun v16 wr => v16 = .int .i64 0 ∧ Aside0 (Below w.heap.size w wr)) (fun _ _ => 0)
  case atStart => exact ⟨rfl, ⟨below_alloc (Below.refl _ _) _⟩⟩
  case round =>
    obtain ⟨rfl, HB⟩ := hrel
    go_wp2
    refine bodyPost_ret (results_tmp2 rfl _ _ _) rfl ?_
    exact ⟨rfl, HB.out⟩
set_option maxRecDepth 100000 in
theorem badClass_nil (w : World) (m : Int) (f g : Value) :
    Calls Try.prog 36 #[.slice none 0 0, .int .i64 m, f, g] w fun e w' => e = .returned (.tuple #[.int .i64 0, .bool false]) ∧ Below w.heap.size w w' := by
  have hmm := @run_makeMap Try.prog
  go_enter Try.func36, Try.ntmps36
  go_wp2
  go_loopw [16] (fun v16 wr => v16 = .int .i64 0 ∧ Aside0 (Below w.heap.size w wr)) (fun _ _ => 0)
  case atStart => exact ⟨rfl, ⟨below_alloc (Below.refl _ _) _⟩⟩
  case round =>
    obtain ⟨rfl, HB⟩ := hrel
    go_wp2
    refine bodyPost_ret (results_tmp2 rfl _ _ _) rfl ?_
    exact ⟨rfl, HB.out⟩
set_option maxRecDepth 100000 in
theorem badCourse_nil (w : World) (m : Int) (f g : Value) :
    Calls Try.prog 40 #[.slice none 0 0, .int .i64 m, f, g] w fun e w' => e = .returned (.tuple #[.int .i64 0, .bool false]) ∧ Below w.heap.size w w' := by
  have hmm := @run_makeMap Try.prog
  go_enter Try.func40, Try.ntmps40
  go_wp2
  go_loopw [16] (fun v16 wr => v16 = .int .i64 0 ∧ Aside0 (Below w.heap.size w wr)) (fun _ _ => 0)
  case atStart => exact ⟨rfl, ⟨below_alloc (Below.refl _ _) _⟩⟩
  case round =>
    obtain ⟨rfl, HB⟩ := hrel
    go_wp2
    refine bodyPost_ret (results_tmp2 rfl _ _ _) rfl ?_
    exact ⟨rfl, HB.out⟩
set_option maxRecDepth 100000 in
theorem badStudent_nil (w : World) (m : Int) (f g : Value) :
    Calls Try.prog 44 #[.slice none 0 0, .int .i64 m, f, g] w fun e w' => e = .returned (.tuple #[.int .i64 0, .bool false]) ∧ Below w.heap.size w w' := by
  have hmm := @run_makeMap Try.prog
  go_enter Try.func44, Try.ntmps44
  go_wp2
  go_loopw [16] (fun v16 wr => v16 = .int .i64 0 ∧ Aside0 (Below w.heap.size w wr)) (fun _ _ => 0)
  case atStart => exact ⟨rfl, ⟨below_alloc (Below.refl _ _) _⟩⟩
  case round =>
    obtain ⟨rfl, HB⟩ := hrel
    go_wp2
    refine bodyPost_ret (results_tmp2 rfl _ _ _) rfl ?_
    exact ⟨rfl, HB.out⟩
set_option maxRecDepth 100000 in
theorem badRule_nil (w : World) (m : Int) (f g : Value) :
    Calls Try.prog 48 #[.slice none 0 0, .int .i64 m, f, g] w fun e w' => e = .returned (.tuple #[.int .i64 0, .bool false]) ∧ Below w.heap.size w w' := by
  have hmm := @run_makeMap Try.prog
  go_enter Try.func48, Try.ntmps48
  go_wp2
  go_loopw [16] (fun v16 wr => v16 = .int .i64 0 ∧ Aside0 (Below w.heap.size w wr)) (fun _ _ => 0)
  case atStart => exact ⟨rfl, ⟨below_alloc (Below.refl _ _) _⟩⟩
  case round =>
    obtain ⟨rfl, HB⟩ := hrel
    go_wp2
    refine bodyPost_ret (results_tmp2 rfl _ _ _) rfl ?_
    exact ⟨rfl, HB.out⟩
set_option maxRecDepth 100000 in
theorem eqRoom_nil (w : World) (f : Value) :
    Calls Try.prog 52 #[.slice none 0 0, .slice none 0 0, f] w fun e w' => e = .returned (.bool true) ∧ Below w.heap.size w w' := by
  go_enter Try.func52, Try.ntmps52
  go_wp2
  go_loopw [17] (fun v17 wr => v17 = .int .i64 0 ∧ Aside0 (Below w.heap.size w wr)) (fun _ _ => 0)
  case atStart => exact ⟨rfl, ⟨Below.refl _ _⟩⟩
  case round =>
    obtain ⟨rfl, HB⟩ := hrel
    go_wp2
    go_ret
    exact ⟨rfl, HB.out⟩
set_option maxRecDepth 100000 in
theorem cloneRoom_nil (w : World) :
    Calls Try.prog 66 #[.slice none 0 0] w fun e w' => e = .returned (.slice none 0 0) ∧ Below w.heap.size w w' := by
  have he := fun W => Lib.run_eql_slice_nil (P := Try.prog) W _ _ none 0 0 0 0 Try.underlying30
  go_enter Try.func66, Try.ntmps66
  go_wp2
  go_ret
  exact ⟨rfl, Below.refl _ _⟩
set_option maxRecDepth 100000 in
theorem eqRow_nil (w : World) (f : Value) :
    Calls Try.prog 54 #[.slice none 0 0, .slice none 0 0, f] w fun e w' => e = .returned (.bool true) ∧ Below w.heap.size w w' := by
  go_enter Try.func54, Try.ntmps54
  go_wp2
  go_loopw [17] (fun v17 wr => v17 = .int .i64 0 ∧ Aside0 (Below w.heap.size w wr)) (fun _ _ => 0)
  case atStart => exact ⟨rfl, ⟨Below.refl _ _⟩⟩
  case round =>
    obtain ⟨rfl, HB⟩ := hrel
    go_wp2
    go_ret
    exact ⟨rfl, HB.out⟩
set_option maxRecDepth 100000 in
theorem cloneRow_nil (w : World) :
    Calls Try.prog 97 #[.slice none 0 0] w fun e w' => e = .returned (.slice none 0 0) ∧ Below w.heap.size w w' := by
  have he := fun W => Lib.run_eql_slice_nil (P := Try.prog) W _ _ none 0 0 0 0 Try.underlying31
  go_enter Try.func97, Try.ntmps97
  go_wp2
  go_ret
  exact ⟨rfl, Below.refl _ _⟩
set_option maxRecDepth 100000 in
theorem eqPerson_nil (w : World) (f : Value) :
    Calls Try.prog 56 #[.slice none 0 0, .slice none 0 0, f] w fun e w' => e = .returned (.bool true) ∧ Below w.heap.size w w' := by
  go_enter Try.func56, Try.ntmps56
  go_wp2
  go_loopw [17] (fun v17 wr => v17 = .int .i64 0 ∧ Aside0 (Below w.heap.size w wr)) (fun _ _ => 0)
  case atStart => exact ⟨rfl, ⟨Below.refl _ _⟩⟩
  case round =>
    obtain ⟨rfl, HB⟩ := hrel
    go_wp2
    go_ret
    exact ⟨rfl, HB.out⟩
set_option maxRecDepth 100000 in
theorem clonePerson_nil (w : World) :
    Calls Try.prog 69 #[.slice none 0 0] w fun e w' => e = .returned (.slice none 0 0) ∧ Below w.heap.size w w' := by
  have he := fun W => Lib.run_eql_slice_nil (P := Try.prog) W _ _ none 0 0 0 0 Try.underlying32
  go_enter Try.func69, Try.ntmps69
  go_wp2
  go_ret
  exact ⟨rfl, Below.refl _ _⟩
set_option maxRecDepth 100000 in
theorem eqClass_nil (w : World) (f : Value) :
    Calls Try.prog 58 #[.slice none 0 0, .slice none 0 0, f] w fun e w' => e = .returned (.bool true) ∧ Below w.heap.size w w' := by
  go_enter Try.func58, Try.ntmps58
  go_wp2
  go_loopw [17] (fun v17 wr => v17 = .int .i64 0 ∧ Aside0 (Below w.heap.size w wr)) (fun _ _ => 0)
  case atStart => exact ⟨rfl, ⟨Below.refl _ _⟩⟩
  case round =>
    obtain ⟨rfl, HB⟩ := hrel
    go_wp2
    go_ret
    exact ⟨rfl, HB.out⟩
set_option maxRecDepth 100000 in
theorem cloneClass_nil (w : World) :
    Calls Try.prog 70 #[.slice none 0 0] w fun e w' => e = .returned (.slice none 0 0) ∧ Below w.heap.size w w' := by
  have he := fun W => Lib.run_eql_slice_nil (P := Try.prog) W _ _ none 0 0 0 0 Try.underlying33
  go_enter Try.func70, Try.ntmps70
  go_wp2
  go_ret
  exact ⟨rfl, Below.refl _ _⟩
set_option maxRecDepth 100000 in
theorem eqCourse_nil (w : World) (f : Value) :
    Calls Try.prog 60 #[.slice none 0 0, .slice none 0 0, f] w fun e w' => e = .returned (.bool true) ∧ Below w.heap.size w w' := by
  go_enter Try.func60, Try.ntmps60
  go_wp2
  go_loopw [17] (fun v17 wr => v17 = .int .i64 0 ∧ Aside0 (Below w.heap.size w wr)) (fun _ _ => 0)
  case atStart => exact ⟨rfl, ⟨Below.refl _ _⟩⟩
  case round =>
    obtain ⟨rfl, HB⟩ := hrel
    go_wp2
    go_ret
    exact ⟨rfl, HB.out⟩
set_option maxRecDepth 100000 in
theorem cloneCourse_nil (w : World) :
    Calls Try.prog 74 #[.slice none 0 0] w fun e w' => e = .returned (.slice none 0 0) ∧ Below w.heap.size w w' := by
  have he := fun W => Lib.run_eql_slice_nil (P := Try.prog) W _ _ none 0 0 0 0 Try.underlying34
  go_enter Try.func74, Try.ntmps74
  go_wp2
  go_ret
  exact ⟨rfl, Below.refl _ _⟩
set_option maxRecDepth 100000 in
theorem eqStudent_nil (w : World) (f : Value) :
    Calls Try.prog 62 #[.slice none 0 0, .slice none 0 0, f] w fun e w' => e = .returned (.bool true) ∧ Below w.heap.size w w' := by
  go_enter Try.func62, Try.ntmps62
  go_wp2
  go_loopw [17] (fun v17 wr => v17 = .int .i64 0 ∧ Aside0 (Below w.heap.size w wr)) (fun _ _ => 0)
  case atStart => exact ⟨rfl, ⟨Below.refl _ _⟩⟩
  case round =>
    obtain ⟨rfl, HB⟩ := hrel
    go_wp2
    go_ret
    exact ⟨rfl, HB.out⟩
set_option maxRecDepth 100000 in
theorem cloneStudent_nil (w : World) :
    Calls Try.prog 76 #[.slice none 0 0] w fun e w' => e = .returned (.slice none 0 0) ∧ Below w.heap.size w w' := by
  have he := fun W => Lib.run_eql_slice_nil (P := Try.prog) W _ _ none 0 0 0 0 Try.underlying35
  go_enter Try.func76, Try.ntmps76
  go_wp2
  go_ret
  exact ⟨rfl, Below.refl _ _⟩
set_option maxRecDepth 100000 in
theorem eqRule_nil (w : World) (f : Value) :
    Calls Try.prog 64 #[.slice none 0 0, .slice none 0 0, f] w fun e w' => e = .returned (.bool true) ∧ Below w.heap.size w w' := by
  go_enter Try.func64, Try.ntmps64
  go_wp2
  go_loopw [17] (fun v17 wr => v17 = .int .i64 0 ∧ Aside0 (Below w.heap.size w wr)) (fun _ _ => 0)
  case atStart => exact ⟨rfl, ⟨Below.refl _ _⟩⟩
  case round =>
    obtain ⟨rfl, HB⟩ := hrel
    go_wp2
    go_ret
    exact ⟨rfl, HB.out⟩
set_option maxRecDepth 100000 in
theorem cloneRule_nil (w : World) :
    Calls Try.prog 77 #[.slice none 0 0] w fun e w' => e = .returned (.slice none 0 0) ∧ Below w.heap.size w w' := by
  have he := fun W => Lib.run_eql_slice_nil (P := Try.prog) W _ _ none 0 0 0 0 Try.underlying36
  go_enter Try.func77, Try.ntmps77
  go_wp2
  go_ret
  exact ⟨rfl, Below.refl _ _⟩
set_option maxRecDepth 100000 in
theorem indexClass_nil (w : World) (f : Value) :
    Calls Try.prog 98 #[.slice none 0 0, f] w fun e w' => e = .returned (.int .i64 (-1)) ∧ Below w.heap.size w w' := by
  go_enter Try.func98, Try.ntmps98
  go_wp2
  go_loopw [8] (fun v8 wr => v8 = .int .i64 0 ∧ Aside0 (Below w.heap.size w wr)) (fun _ _ => 0)
  case atStart => exact ⟨rfl, ⟨Below.refl _ _⟩⟩
  case round =>
    obtain ⟨rfl, HB⟩ := hrel
    go_wp2
    go_ret
    exact ⟨rfl, HB.out⟩
set_option maxRecDepth 100000 in
theorem rows_nil (w : World) :
    Calls Try.prog 68 #[.slice none 0 0] w fun e w' => e = .returned (.slice none 0 0) ∧ Below w.heap.size w w' := by
  go_enter Try.func68, Try.ntmps68
  go_wp2_with (first | (go_at_call 97; refine (cloneRow_nil _).mono ?_; rintro e w1 ⟨rfl, hB⟩; have HB := Aside0.mk hB; clear hB))
  go_loopw [9] (fun v9 wr => v9 = .int .i64 0 ∧ Aside0 (Below w.heap.size w wr)) (fun _ _ => 0)
  case atStart => exact ⟨rfl, HB⟩
  case round =>
    clear HB
    obtain ⟨rfl, HB⟩ := hrel
    go_wp2
    go_ret
    exact ⟨rfl, HB.out⟩
end Go.Proofs.Ytineikfhfmiidaa.Pm

/- Words for maps that a call makes: block b of the world is a map that holds f (a function from keys to what they hold); what a look-up, a store, a delete and len do. Over whatever program. -/
namespace Go.Proofs.Ytineikfhfmiidaa.Mw
open Go Go.RowKit Go.Maps

/-- A kind of maps: the types' numbers, how keys and elements are written, and what they read as. -/
structure MK (P : Program) (κ ε : Type) where
  k : TypeId
  e : TypeId
  t : TypeId
  ek : κ → Value
  lk : κ → Lit
  ok : κ → Prop
  ev : ε → Value
  le : ε → DataW Unit
  oke : ε → Prop
  z : ε
  R : Value → Option (DataW Unit × List MemPlace)
  K : Keyed P k
  ht : P.underlying t = some (.map k e)
  hkey : ∀ a, ok a → keyOf P k (ek a) = some (lk a)
  hinj : ∀ a b, ok a → ok b → lk a = lk b → a = b
  hz : ∀ w, (zeroValue e).run P w = .ok (ev z) w
  hzo : oke z
  hR : ∀ x, oke x → R (ev x) = some (le x, [])
  hRi : ∀ v d ps x, R v = some (d, ps) → d = le x → v = ev x

/-- A function with one place turned. -/
def upd {κ ε : Type} [DecidableEq κ] (f : κ → Option ε) (a : κ) (x : Option ε) : κ → Option ε := fun b => if b = a then x else f b

section
variable {P : Program} {κ ε : Type}

theorem ownsMap_tight {P : Program} {k : TypeId} {R : Value → Option (DataW Unit × List MemPlace)} {w : World} {b n : Nat} {D : DataW Unit} (h : w.ownsMap P k R b n D) : w.ownsMap P k R b (Maps.size D) D := by
  obtain ⟨es, clock, hb, F, _, hD⟩ := h
  refine ⟨es, clock, hb, F, ?_, hD⟩
  rw [hD]
  simp [Maps.size, length_sorted]
/-- Block b is a map with m entries; at key a it holds f a. -/
def MIs (M : MK P κ ε) (w : World) (b m : Nat) (f : κ → Option ε) : Prop :=
  ∃ D : DataW Unit, w.ownsMap P M.k M.R b m D ∧ Maps.size D = m ∧ ∀ a, M.ok a → Maps.has D (M.lk a) = (f a).isSome ∧ D.atKey (M.lk a) (M.le M.z) = M.le ((f a).getD M.z)

variable {M : MK P κ ε} {w w' : World} {b m : Nat} {f : κ → Option ε}

theorem MIs.made (M : MK P κ ε) (w : World) : MIs M (w.alloc (.map #[] 0)) w.heap.size 0 (fun _ => none) :=
  ⟨.map [], World.ownsMap_made w P M.k M.R, rfl, fun _ _ => ⟨rfl, rfl⟩⟩
theorem MIs.kept (h : MIs M w b m f) {row : Option Nat} (hg : w.grownBy w' row) (hne : some b ≠ row) : MIs M w' b m f := by
  obtain ⟨D, ho, hs, hf⟩ := h
  exact ⟨D, ho.kept hg hne, hs, hf⟩
theorem MIs.alloc (h : MIs M w b m f) (o : Obj) : MIs M (w.alloc o) b m f := h.kept (World.grownBy_alloc w o none) (by simp)
theorem MIs.drew (h : MIs M w b m f) : MIs M w.drew b m f := h
theorem MIs.drewN (h : MIs M w b m f) (q : Nat) : MIs M (w.drewN q) b m f := by
  obtain ⟨D, ho, hs, hf⟩ := h
  obtain ⟨es, clock, hb, F, hsz, hD⟩ := ho
  exact ⟨D, ⟨es, clock, hb, F, hsz, hD⟩, hs, hf⟩
theorem MIs.lt (h : MIs M w b m f) : b < w.heap.size := by
  obtain ⟨D, ho, _⟩ := h
  exact ho.lt
theorem MIs.below {B : Nat} (h : MIs M w b m f) (hb : Below B w w') (hB : b < B) : MIs M w' b m f := by
  obtain ⟨D, ⟨es, clock, hbk, F, hsz, hD⟩, hs, hf⟩ := h
  exact ⟨D, ⟨es, clock, (hb.block b hB).trans hbk, F, hsz, hD⟩, hs, hf⟩
theorem MIs.setCell (h : MIs M w b m f) {a : Addr} (ha : b ≠ a.block) (u : Value) : MIs M (w.setCell a u) b m f := by
  obtain ⟨D, ho, hs, hf⟩ := h
  exact ⟨D, ho.setCell ha u, hs, hf⟩
theorem MIs.ext (h : MIs M w b m f) {g : κ → Option ε} (hg : ∀ a, M.ok a → g a = f a) : MIs M w b m g := by
  obtain ⟨D, ho, hs, hf⟩ := h
  exact ⟨D, ho, hs, fun a ha => by rw [hg a ha]; exact hf a ha⟩

/-- A look-up. -/
theorem MIs.run_look (h : MIs M w b m f) (a : κ) (ha : M.ok a) : (Instr.lookup M.t (.map (some b)) (M.ek a) false).run P w = .ok (M.ev ((f a).getD M.z)) w := by
  obtain ⟨D, ho, hs, hf⟩ := h
  obtain ⟨v, ps, hrun, hv⟩ := ho.lookup M.K M.ht (M.hz w) (M.hR _ M.hzo) (M.hkey a ha)
  rw [(hf a ha).2] at hv
  rw [hrun, M.hRi _ _ _ _ hv rfl]
/-- A look-up that says whether the key is there. -/
theorem MIs.run_look_ok (h : MIs M w b m f) (a : κ) (ha : M.ok a) : (Instr.lookup M.t (.map (some b)) (M.ek a) true).run P w = .ok (.tuple #[M.ev ((f a).getD M.z), .bool (f a).isSome]) w := by
  obtain ⟨D, ho, hs, hf⟩ := h
  obtain ⟨v, ps, hrun, hv⟩ := ho.look_ok M.K M.ht (M.hz w) (M.hR _ M.hzo) (M.hkey a ha)
  rw [(hf a ha).2] at hv
  rw [hrun, M.hRi _ _ _ _ hv rfl, (hf a ha).1]
theorem MIs.run_len (h : MIs M w b m f) (ty : TypeId) : (Builtin.len_ #[M.t] ty #[.map (some b)]).run P w = .ok (.int .i64 (m : Int)) w := by
  obtain ⟨D, ho, hs, hf⟩ := h
  rw [ho.len M.ht ty, hs]
/-- A store. -/
theorem MIs.run_put [DecidableEq κ] (h : MIs M w b m f) (hn : m < maxLen) (a : κ) (ha : M.ok a) (x : ε) (hx : M.oke x) :
    ∃ w', (Instr.mapUpdate M.t (.map (some b)) (M.ek a) (M.ev x)).run P w = .ok () w' ∧ MIs M w' b (if (f a).isSome then m else m + 1) (upd f a (some x)) ∧ w.grownBy w' (some b) := by
  obtain ⟨D, ho, hs, hf⟩ := h
  obtain ⟨w', hrun, ho', ht⟩ := ho.store M.K M.ht hn (M.hkey a ha) (M.hR x hx)
  have hk := M.K.key (M.hkey a ha)
  have hsz : Maps.size (D.put (M.lk a) (M.le x)) = if (f a).isSome then m else m + 1 := by rw [size_put (ho.tidy M.K), (hf a ha).1, hs]
  refine ⟨w', hrun, ⟨_, hsz ▸ ownsMap_tight ho', hsz, fun c hc => ?_⟩, ht.grown⟩
  · unfold upd
    by_cases hca : c = a
    · subst hca
      rw [if_pos rfl, has_put_same ho.isMap hk, atKey_put_same ho.isMap hk]
      exact ⟨rfl, rfl⟩
    · rw [if_neg hca]
      have hne : M.lk c ≠ M.lk a := fun e => hca (M.hinj c a hc ha e)
      rw [has_put_other hne, atKey_put_other hne]
      exact hf c hc
/-- A delete. -/
theorem MIs.run_del [DecidableEq κ] (h : MIs M w b m f) (a : κ) (ha : M.ok a) (ty : TypeId) :
    ∃ w', (Builtin.delete_ #[M.t, M.k] ty #[.map (some b), M.ek a]).run P w = .ok (.tuple #[]) w' ∧ MIs M w' b (if (f a).isSome then m - 1 else m) (upd f a none) ∧ w.grownBy w' (some b) := by
  obtain ⟨D, ho, hs, hf⟩ := h
  obtain ⟨w', hrun, ho', ht⟩ := ho.drop M.K M.ht (M.hkey a ha) ty
  have hk := M.K.key (M.hkey a ha)
  have hsz : Maps.size (D.del (M.lk a)) = if (f a).isSome then m - 1 else m := by
    have h1 := size_del (k := M.lk a) (ho.tidy M.K)
    rw [(hf a ha).1, hs] at h1
    split at h1 <;> simp_all <;> omega
  refine ⟨w', hrun, ⟨_, hsz ▸ ownsMap_tight ho', hsz, fun c hc => ?_⟩, ht.grown⟩
  · unfold upd
    by_cases hca : c = a
    · subst hca
      rw [if_pos rfl, has_del_same, atKey_del_same]
      exact ⟨rfl, rfl⟩
    · rw [if_neg hca]
      have hne : M.lk c ≠ M.lk a := fun e => hca (M.hinj c a hc ha e)
      rw [has_del_other hne, atKey_del_other hne]
      exact hf c hc
end

section
variable {P : Program} {κ ε : Type} {M : MK P κ ε} {w : World} {b m : Nat} {f : κ → Option ε} {ops : Array Oper} {rest : List Oper} {o : Oper} {a : Act} {Q : Exit → Act → World → Prop}

/-- At the operation, for the walk. -/
theorem wl_look (h : MIs M w b m f) (hg : o.guard = none) (mo x : Operand) (hop : o.op = Op.lookup M.t mo x false) (hm : a.eval mo = .map (some b)) (c : κ) (hc : M.ok c) (hx : a.eval x = M.ek c)
    (hK : wpList P ops Q rest (a.put o.dst (M.ev ((f c).getD M.z))) w) : wpList P ops Q (o :: rest) a w := by
  refine wpList_plain hg fun K' hK' => ?_
  unfold Oper.wp
  simp [execOp, hop, hm, hx, h.run_look c hc, Result.andThen]
  exact hK' _ _ hK
theorem wl_look_ok (h : MIs M w b m f) (hg : o.guard = none) (mo x : Operand) (hop : o.op = Op.lookup M.t mo x true) (hm : a.eval mo = .map (some b)) (c : κ) (hc : M.ok c) (hx : a.eval x = M.ek c)
    (hK : wpList P ops Q rest (a.put o.dst (.tuple #[M.ev ((f c).getD M.z), .bool (f c).isSome])) w) : wpList P ops Q (o :: rest) a w := by
  refine wpList_plain hg fun K' hK' => ?_
  unfold Oper.wp
  simp [execOp, hop, hm, hx, h.run_look_ok c hc, Result.andThen]
  exact hK' _ _ hK
theorem wl_look1 (h : MIs M w b m f) (hg : o.guard = none) (mo x : Operand) (hop : o.op = Op.lookup M.t mo x false) (hm : a.eval mo = .map (some b)) (c : κ) (hc : M.ok c) (hx : a.eval x = M.ek c) (y : ε) (hf : (f c).getD M.z = y) (v : Value) (hv : M.ev y = v)
    (hK : wpList P ops Q rest (a.put o.dst v) w) : wpList P ops Q (o :: rest) a w := by
  subst hf
  subst hv
  exact wl_look h hg mo x hop hm c hc hx hK
theorem wl_ok1 (h : MIs M w b m f) (hg : o.guard = none) (mo x : Operand) (hop : o.op = Op.lookup M.t mo x true) (hm : a.eval mo = .map (some b)) (c : κ) (hc : M.ok c) (hx : a.eval x = M.ek c) (y : ε) (hf : (f c).getD M.z = y) (q : Bool) (hq : (f c).isSome = q) (v : Value) (hv : M.ev y = v)
    (hK : wpList P ops Q rest (a.put o.dst (.tuple #[v, .bool q])) w) : wpList P ops Q (o :: rest) a w := by
  subst hf
  subst hv
  subst hq
  exact wl_look_ok h hg mo x hop hm c hc hx hK
theorem wl_len (h : MIs M w b m f) (hg : o.guard = none) (mo : Operand) (hop : o.op = Op.call { callee := Callee.builtin Builtin.len, args := #[mo], argTypes := #[M.t] }) (hm : a.eval mo = .map (some b))
    (hK : wpList P ops Q rest (a.put o.dst (.int .i64 (m : Int))) w) : wpList P ops Q (o :: rest) a w := by
  refine wpList_plain hg fun K' hK' => ?_
  unfold Oper.wp
  simp [execOp, hop, resolve, invoke, builtin, hm, h.run_len o.type, Result.andThen]
  exact hK' _ _ hK
theorem wl_put [DecidableEq κ] (h : MIs M w b m f) (hg : o.guard = none) (mo x v : Operand) (hop : o.op = Op.mapUpdate M.t mo x v) (hm : a.eval mo = .map (some b)) (hn : m < maxLen) (c : κ) (hc : M.ok c) (hx : a.eval x = M.ek c) (y : ε) (hy : M.oke y) (hv : a.eval v = M.ev y)
    (hK : ∀ w', MIs M w' b (if (f c).isSome then m else m + 1) (upd f c (some y)) → w.grownBy w' (some b) → wpList P ops Q rest (a.put o.dst undef) w') : wpList P ops Q (o :: rest) a w := by
  refine wpList_plain hg fun K' hK' => ?_
  obtain ⟨w', hrun, r1, r2⟩ := h.run_put hn c hc y hy
  unfold Oper.wp
  simp [execOp, hop, hm, hx, hv, hrun, Result.andThen]
  exact hK' _ _ (hK w' r1 r2)
theorem wl_del [DecidableEq κ] (h : MIs M w b m f) (hg : o.guard = none) (mo x : Operand) (hop : o.op = Op.call { callee := Callee.builtin Builtin.delete, args := #[mo, x], argTypes := #[M.t, M.k] }) (hm : a.eval mo = .map (some b)) (c : κ) (hc : M.ok c) (hx : a.eval x = M.ek c)
    (hK : ∀ w', MIs M w' b (if (f c).isSome then m - 1 else m) (upd f c none) → w.grownBy w' (some b) → wpList P ops Q rest (a.put o.dst (.tuple #[])) w') : wpList P ops Q (o :: rest) a w := by
  refine wpList_plain hg fun K' hK' => ?_
  obtain ⟨w', hrun, r1, r2⟩ := h.run_del c hc o.type
  unfold Oper.wp
  simp [execOp, hop, resolve, invoke, builtin, hm, hx, hrun, Result.andThen]
  exact hK' _ _ (hK w' r1 r2)
end

/-- Maps from numbers (int) to bools. -/
def intBool (P : Program) (k e t : TypeId) (hk : P.underlying k = some (.int .i64)) (he : P.underlying e = some .bool) (ht : P.underlying t = some (.map k e)) (hz : ∀ w, (zeroValue e).run P w = .ok (.bool false) w) : MK P Int Bool where
  k := k
  e := e
  t := t
  ek := .int .i64
  lk := .int .i64
  ok := fun a => (Lit.int .i64 a).wf = true
  ev := .bool
  le := fun x => .lit (.bool x)
  oke := fun _ => True
  z := false
  R := plainElem P e
  K := int_keyed hk
  ht := ht
  hkey := fun a ha => keyOf_int_mk hk ha
  hinj := fun a b _ _ h => by injection h
  hz := hz
  hzo := trivial
  hR := fun x _ => plainElem_bool he x
  hRi := fun v d ps x h hd => by
    subst hd
    unfold plainElem at h
    rw [he] at h
    cases v <;> simp at h
    rw [h.1]
/-- Maps from numbers to numbers. -/
def intInt (P : Program) (k e t : TypeId) (hk : P.underlying k = some (.int .i64)) (he : P.underlying e = some (.int .i64)) (ht : P.underlying t = some (.map k e)) (hz : ∀ w, (zeroValue e).run P w = .ok (.int .i64 0) w) : MK P Int Int where
  k := k
  e := e
  t := t
  ek := .int .i64
  lk := .int .i64
  ok := fun a => (Lit.int .i64 a).wf = true
  ev := .int .i64
  le := fun x => .lit (.int .i64 x)
  oke := fun a => (Lit.int .i64 a).wf = true
  z := 0
  R := plainElem P e
  K := int_keyed hk
  ht := ht
  hkey := fun a ha => keyOf_int_mk hk ha
  hinj := fun a b _ _ h => by injection h
  hz := hz
  hzo := by decide
  hR := fun x hx => plainElem_int he hx
  hRi := fun v d ps x h hd => by
    subst hd
    obtain ⟨c, rfl, hc, _⟩ := plainElem_int_inv he h
    injection hc with hc
    injection hc with hc
    injection hc with _ hc
    rw [hc]
/-- Maps from strings to bools. -/
def strBool (P : Program) (k e t : TypeId) (hk : P.underlying k = some .string) (he : P.underlying e = some .bool) (ht : P.underlying t = some (.map k e)) (hz : ∀ w, (zeroValue e).run P w = .ok (.bool false) w) : MK P ByteArray Bool where
  k := k
  e := e
  t := t
  ek := .string
  lk := fun s => .string s.data.toList
  ok := fun s => s.size ≤ maxLen
  ev := .bool
  le := fun x => .lit (.bool x)
  oke := fun _ => True
  z := false
  R := plainElem P e
  K := string_keyed hk
  ht := ht
  hkey := fun a ha => Go.WideMaps.keyOf_string_mk hk ha
  hinj := fun a b _ _ h => by
    injection h with h
    cases a; cases b
    congr 1
    exact Array.toList_inj.1 h
  hz := hz
  hzo := trivial
  hR := fun x _ => plainElem_bool he x
  hRi := fun v d ps x h hd => by
    subst hd
    unfold plainElem at h
    rw [he] at h
    cases v <;> simp at h
    rw [h.1]
theorem wf64 {a : Int} (h0 : -9223372036854775808 ≤ a) (h1 : a ≤ 9223372036854775807) : (Lit.int .i64 a).wf = true := Go.WalkArith.wf_i64 ⟨h0, h1⟩
end Go.Proofs.Ytineikfhfmiidaa.Mw

/- Rules: problem.Rule and the document's Rule tell the same. -/
namespace Go.Proofs.Ytineikfhfmiidaa.Pm
open Go Go.RowKit Go.Proofs.Ytineikfhfmiidaa.Gp Go.Proofs.Ytineikfhfmiidaa.Mw Go.Proofs.YtineikfhfmiidaaW.PrintWords Go.Proofs.YtineikfhfmiidaaW.PrintLast Go.Proofs.YtineikfhfmiidaaW.PrintMore
set_option linter.unusedVariables false
set_option linter.unusedSimpArgs false
theorem within_eq (a b c : Int) : many_within.f a b c = some (decide (b ≤ a) && decide (a ≤ c)) := by
  unfold many_within.f
  by_cases h : b ≤ a <;> simp [h]
theorem from_eq (a b c : Int) : horariumref16_from.f a b c = some (decide (b ≤ a) && decide (a ≤ c)) := by
  unfold horariumref16_from.f
  by_cases h : b ≤ a <;> simp [h]
def kp (k : Int) : Bool := decide (1 ≤ k) && decide (k ≤ 14)
def km (k : Int) : Bool := decide (21 ≤ k) && decide (k ≤ 24)
theorem kp15 (k : Int) : horariumref15_Known.f k = some (kp k) := by
  unfold horariumref15_Known.f kp
  by_cases h : 1 ≤ k <;> simp [h]
theorem kp_pair (k : Int) : pair_Known.f k = some (kp k) := by
  unfold pair_Known.f kp
  by_cases h : 1 ≤ k <;> simp [h]
theorem km16 (k : Int) : horariumref16_Known.f k = some (km k) := by
  unfold horariumref16_Known.f km
  by_cases h : 21 ≤ k <;> simp [h]
theorem km_many (k : Int) : many_Known.f k = some (km k) := by
  unfold many_Known.f km
  by_cases h : 21 ≤ k <;> simp [h]
theorem nums_some (k a b : Int) : ∃ r, many_Right.f 5 k a b = some r := by
  unfold many_Right.f
  simp only [many_Right.j0, within_eq, Option.bind_some]
  repeat' split
  all_goals exact ⟨_, rfl⟩
/-- May these be a rule's numbers? -/
def numsOk (k a b : Int) : Bool := (many_Right.f 5 k a b).getD false
theorem nums_many (k a b : Int) : many_Right.f 5 k a b = some (numsOk k a b) := by
  obtain ⟨r, hr⟩ := nums_some k a b
  unfold numsOk
  rw [hr]
  rfl
theorem nums16 (k a b : Int) : horariumref16_Right.f 5 k a b = some (numsOk k a b) := by
  rw [← nums_many]
  unfold many_Right.f horariumref16_Right.f
  simp only [many_Right.j0, horariumref16_Right.j0, within_eq, from_eq, kp15, kp, Option.bind_some]
/-- Are numbers from 0 below n, each once? -/
def dstB (n : Int) (cs : List Int) : Bool := cs.all (fun x => decide (0 ≤ x) && decide (x < n)) && decide cs.Nodup
structure DstTo (n : Int) (cs : List Int) (i : Nat) : Prop where
  inn : ∀ x ∈ cs.take i, 0 ≤ x ∧ x < n
  one : (cs.take i).Nodup
theorem take1 (l : List Int) (i : Nat) (hi : i < l.length) : l.take (i + 1) = l.take i ++ [l.getD i 0] := by
  rw [List.take_add_one, List.getD_eq_getElem?_getD, List.getElem?_eq_getElem hi]
  rfl
theorem memD (l : List Int) (i : Nat) (hi : i < l.length) : l.getD i 0 ∈ l := by
  rw [List.getD_eq_getElem?_getD, List.getElem?_eq_getElem hi]
  exact List.getElem_mem hi
theorem DstTo.start (n : Int) (cs : List Int) : DstTo n cs 0 := ⟨by simp, by simp⟩
theorem DstTo.step {n : Int} {cs : List Int} {i : Nat} (h : DstTo n cs i) (hi : i < cs.length) (h0 : 0 ≤ cs.getD i 0) (h1 : cs.getD i 0 < n) (h2 : cs.getD i 0 ∉ cs.take i) : DstTo n cs (i + 1) := by
  refine ⟨fun x hx => ?_, ?_⟩
  · rw [take1 cs i hi] at hx
    rcases List.mem_append.1 hx with h3 | h3
    · exact h.inn x h3
    · rw [List.mem_singleton.1 h3]; exact ⟨h0, h1⟩
  · rw [take1 cs i hi, List.nodup_append]
    refine ⟨h.one, by simp, fun y hy z hz => ?_⟩
    rw [List.mem_singleton] at hz
    rintro rfl
    exact h2 (hz ▸ hy)
theorem DstTo.over {n : Int} {cs : List Int} (h : DstTo n cs cs.length) : dstB n cs = true := by
  have h1 := h.inn
  have h2 := h.one
  rw [List.take_length] at h1 h2
  unfold dstB
  rw [Bool.and_eq_true, List.all_eq_true]
  exact ⟨fun x hx => by rw [Bool.and_eq_true]; exact ⟨decide_eq_true (h1 x hx).1, decide_eq_true (h1 x hx).2⟩, decide_eq_true h2⟩
theorem dst_bad {n : Int} {cs : List Int} {i : Nat} (hi : i < cs.length) (h : cs.getD i 0 < 0 ∨ n ≤ cs.getD i 0 ∨ cs.getD i 0 ∈ cs.take i) : dstB n cs = false := by
  cases hd : dstB n cs with
  | false => rfl
  | true =>
    unfold dstB at hd
    rw [Bool.and_eq_true, List.all_eq_true, decide_eq_true_iff] at hd
    obtain ⟨h1, h2⟩ := hd
    have h3 := h1 _ (memD cs i hi)
    rw [Bool.and_eq_true, decide_eq_true_iff, decide_eq_true_iff] at h3
    rcases h with h | h | h
    · omega
    · omega
    · exfalso
      have h4 : (cs.take (i + 1)).Nodup := h2.sublist (List.take_sublist _ _)
      rw [take1 cs i hi, List.nodup_append] at h4
      exact h4.2.2 _ h _ (List.mem_singleton.2 rfl) rfl
/-- What the map of the numbers seen holds. -/
def SeenI (cs : List Int) (i : Nat) (f : Int → Option Bool) : Prop := ∀ x, f x = if x ∈ cs.take i then some true else none
theorem SeenI.start (cs : List Int) : SeenI cs 0 (fun _ => none) := fun x => by simp
theorem SeenI.step {cs : List Int} {i : Nat} {f : Int → Option Bool} (h : SeenI cs i f) (hi : i < cs.length) : SeenI cs (i + 1) (upd f (cs.getD i 0) (some true)) := by
  intro x
  unfold upd
  rw [take1 cs i hi]
  by_cases e : x = cs.getD i 0
  · rw [if_pos e, if_pos (List.mem_append_right _ (List.mem_singleton.2 e))]
  · rw [if_neg e, h x]
    by_cases hm : x ∈ cs.take i
    · rw [if_pos hm, if_pos (List.mem_append_left _ hm)]
    · rw [if_neg hm, if_neg (fun h2 => ?_)]
      rcases List.mem_append.1 h2 with h3 | h3
      · exact hm h3
      · exact e (List.mem_singleton.1 h3)
theorem zeroB (w : World) : (zeroValue 4).run Try.prog w = .ok (.bool false) w := by kernel_rfl
noncomputable def MIB : MK Try.prog Int Bool := intBool Try.prog 3 4 137 Try.underlying3 Try.underlying4 Try.underlying137 zeroB
theorem int_cell {w : World} {A : Option Addr} {l : List Int} (hC : (Kd.int .i64).C w A l.length l) {i : Nat} {x : Int} (hi : i < l.length) (hx : x = l.getD i 0) : ∃ ad, A = some ad ∧ w.cell? (ad.add i) = some (.int .i64 x) := by
  obtain ⟨ad', e, hcell⟩ := Kd.at_int hC (i : Int) (by omega) (by omega)
  refine ⟨ad', e, ?_⟩
  rw [Int.toNat_natCast] at hcell
  rw [hcell, hx]
  unfold rd
  rw [Int.toNat_natCast]
set_option maxRecDepth 100000 in
set_option maxHeartbeats 1000000 in
theorem distinct_is (w : World) (A : Option Addr) (m c : Nat) (cs : List Int) (n : Int) (hm : cs.length = m) (hC : (Kd.int .i64).C w A cs.length cs) (hc : m ≤ c) (hl : m ≤ 400) (hn : n ≤ 9223372036854775807) :
    Calls Try.prog 19 #[.slice A m c, .int .i64 n] w fun e w' => e = .returned (.bool (dstB n cs)) ∧ Below w.heap.size w w' := by
  have HC := Aside0.mk hC
  have HM := Aside0.mk hm
  clear hC hm
  have hmm := @run_makeMap Try.prog
  go_enter Try.func19, Try.ntmps19
  go_wp2
  go_loopw [11] (fun v11 wr => ∃ (i : Nat) (f : Int → Option Bool) (s : Nat), i ≤ m ∧ v11 = .int .i64 i ∧ Aside0 (DstTo n cs i) ∧ Aside0 (SeenI cs i f) ∧ Aside0 (s ≤ i) ∧ Aside0 (MIs MIB wr w.heap.size s f) ∧ Aside0 (Below w.heap.size w wr)) (fun v11 _ => m - (intOf v11).toNat)
  case atStart => exact ⟨0, fun _ => none, 0, Nat.zero_le _, rfl, ⟨DstTo.start _ _⟩, ⟨SeenI.start _⟩, ⟨Nat.le_refl _⟩, ⟨MIs.made MIB w⟩, ⟨below_alloc (Below.refl _ _) _⟩⟩
  case round =>
    clear hmm
    obtain ⟨i, f, s, hi, rfl, HD, HF, HS, HMp, HB⟩ := hrel
    by_cases him : i < m
    · have hic : i < cs.length := by have := HM.out; omega
      obtain ⟨x, hx⟩ : ∃ x, x = cs.getD i 0 := ⟨_, rfl⟩
      obtain ⟨ad, rfl, hcell⟩ := int_cell (Kd.C_below HC.out HB.out) hic hx
      have him2 : (i : Int) < (m : Int) := by omega
      have HX := Aside0.mk (And.intro hx hic)
      clear hx hic
      by_cases h0 : x < 0
      · have HR := Aside0.mk (dst_bad (n := n) HX.out.2 (Or.inl (by rw [← HX.out.1]; exact h0)))
        go_wp2
        go_ret
        rw [HR.out]
        exact ⟨rfl, HB.out⟩
      · have h0' : decide (x < 0) = false := decide_eq_false h0
        by_cases h1 : n ≤ x
        · have HR := Aside0.mk (dst_bad (n := n) HX.out.2 (Or.inr (Or.inl (by rw [← HX.out.1]; exact h1))))
          go_wp2
          go_ret
          rw [HR.out]
          exact ⟨rfl, HB.out⟩
        · have h1' : decide (n ≤ x) = false := decide_eq_false h1
          have hok : MIB.ok x := wf64 (by omega) (by omega)
          have HOK := Aside0.mk hok
          clear hok
          by_cases h2 : x ∈ cs.take i
          · have HR := Aside0.mk (dst_bad (n := n) HX.out.2 (Or.inr (Or.inr (by rw [← HX.out.1]; exact h2))))
            have hfx : f x = some true := by rw [HF.out x, if_pos h2]
            have hlook : (Instr.lookup 137 (.map (some w.heap.size)) (.int .i64 x) false).run Try.prog wr = .ok (.bool true) wr := by
              have := HMp.out.run_look x HOK.out
              rw [hfx] at this
              exact this
            clear hfx h2
            go_wp2
            go_ret
            rw [HR.out]
            exact ⟨rfl, HB.out⟩
          · have hfx : f x = none := by rw [HF.out x, if_neg h2]
            have hlook : (Instr.lookup 137 (.map (some w.heap.size)) (.int .i64 x) false).run Try.prog wr = .ok (.bool false) wr := by
              have := HMp.out.run_look x HOK.out
              rw [hfx] at this
              exact this
            have HD2 := Aside0.mk (HD.out.step HX.out.2 (by rw [← HX.out.1]; omega) (by rw [← HX.out.1]; omega) (by rw [← HX.out.1]; exact h2))
            have HF2 := Aside0.mk (HF.out.step HX.out.2)
            rw [← HX.out.1] at HF2
            have HFx := Aside0.mk hfx
            clear hfx h2
            go_wp2_with (first
              | (at_mapUpdate; refine wl_put HMp.out rfl _ _ _ rfl rfl (by have := HS.out; unfold maxLen; omega) x HOK.out rfl true trivial rfl ?_; intro w2 hM2 hg2))
            rw [HFx.out] at hM2
            exact ⟨⟨i + 1, _, s + 1, by omega, by go_num, HD2, HF2, ⟨by have := HS.out; omega⟩, ⟨hM2⟩, ⟨HB.out.grown hg2 HB.out.size (fun q e => by cases e; exact Nat.le_refl _)⟩⟩, by simp [intOf]; omega⟩
    · obtain rfl : i = m := by omega
      have HR := Aside0.mk (show dstB n cs = true from DstTo.over (by rw [HM.out]; exact HD.out))
      go_wp2
      go_ret
      rw [HR.out]
      exact ⟨rfl, HB.out⟩
/-- May a rule be, among n classes? -/
def ruleOk (n k : Int) (cs : List Int) (a b : Int) (hard : Bool) (cost : Int) : Bool :=
  (kp k || km k) && numsOk k a b && decide (2 ≤ cs.length) && decide (cs.length ≤ 12) && dstB n cs && (if hard then decide (cost = 0) else decide (1 ≤ cost) && decide (cost ≤ 1000))
theorem cost_eq (x : Int) : problem_cost.f x = some (decide (0 ≤ x) && decide (x ≤ 1000)) := by
  unfold problem_cost.f
  by_cases h : 0 ≤ x <;> simp [h]
/-- A block of the call's own with these cells. -/
structure PBox (w wr : World) (g : Nat) (t : TypeId) (cs : Array Value) : Prop where
  blk : wr.heap[g]? = some (.cells cs t (0, 0))
  bel : Below w.heap.size w wr
  ge : w.heap.size ≤ g
theorem PBox.below {w wr w1 : World} {g : Nat} {t : TypeId} {cs : Array Value} (h : PBox w wr g t cs) (hB : Below wr.heap.size wr w1) : PBox w w1 g t cs :=
  ⟨(hB.block g (Array.getElem?_eq_some_iff.1 h.blk).1).trans h.blk, below_then h.bel h.bel.size hB, h.ge⟩
theorem PBox.cell {w wr : World} {g : Nat} {t : TypeId} {cs : Array Value} (h : PBox w wr g t cs) (i : Nat) {v : Value} (hv : cs[i]? = some v) : wr.cell? ⟨g, i, none⟩ = some v := (blk_cell h.blk i).trans hv
end Go.Proofs.Ytineikfhfmiidaa.Pm

/- The document's Has: is a number in a row. -/
namespace Go.Proofs.Ytineikfhfmiidaa.Pm
open Go Go.RowKit Go.Proofs.Ytineikfhfmiidaa.Gp Go.Proofs.YtineikfhfmiidaaW.PrintWords Go.Proofs.YtineikfhfmiidaaW.PrintLast Go.Proofs.YtineikfhfmiidaaW.PrintMore
set_option linter.unusedVariables false
set_option linter.unusedSimpArgs false
theorem rd_nat (l : List Int) (n : Nat) : rd l (n : Int) = l.getD n 0 := by unfold rd; rw [Int.toNat_natCast]
theorem wr1 {i : Nat} (h : i < 9223372036854775807) : wrap64 ((i : Int) + 1) = ((i + 1 : Nat) : Int) := by unfold wrap64; omega
theorem among_ev (l : List Int) (x : Int) (hl : l.length ≤ 9223372036854775807) : ∀ d i : Nat, d + i = l.length → (∀ j, j < i → l.getD j 0 ≠ x) → Ev (fun k => horariumref14_Has.l0 k l x (i : Int)) (l.contains x) := by
  intro d
  induction d with
  | zero =>
    intro i hi hj
    have : l.contains x = false := by
      rw [List.contains_eq_mem]
      refine decide_eq_false (fun hm => ?_)
      obtain ⟨j, h1, h2⟩ := List.getElem_of_mem hm
      refine hj j (by omega) ?_
      rw [List.getD_eq_getElem?_getD, List.getElem?_eq_getElem h1]
      exact h2
    rw [this]
    refine Ev.step (f := fun _ => some false) (fun k => ?_) (Ev.now false)
    simp only [horariumref14_Has.l0]
    rw [if_neg (by omega)]
  | succ d ih =>
    intro i hi hj
    by_cases he : l.getD i 0 = x
    · have : l.contains x = true := by
        rw [List.contains_eq_mem]
        refine decide_eq_true ?_
        rw [← he, List.getD_eq_getElem?_getD, List.getElem?_eq_getElem (by omega : i < l.length)]
        exact List.getElem_mem _
      rw [this]
      refine Ev.step (f := fun _ => some true) (fun k => ?_) (Ev.now true)
      simp only [horariumref14_Has.l0]
      rw [if_pos (by omega), if_pos (by omega), rd_nat, if_pos he]
    · refine Ev.step (fun k => ?_) (ih (i + 1) (by omega) (fun j h => ?_))
      · simp only [horariumref14_Has.l0]
        rw [if_pos (by omega), if_pos (by omega), rd_nat, if_neg he, wr1 (by omega)]
      · by_cases e : j = i
        · rw [e]; exact he
        · exact hj j (by omega)
theorem among_f (l : List Int) (x : Int) (hl : l.length ≤ 9223372036854775807) : Ev (fun k => horariumref14_Has.f k l x) (l.contains x) := among_ev l x hl l.length 0 rfl (fun j hj => by omega)
theorem HasL_is (w : World) (A : Option Addr) (m c : Nat) (l : List Int) (x : Int) (hm : l.length = m) (hC : (Kd.int .i64).C w A l.length l) (hc : m ≤ c) :
    Calls Try.prog 24 #[.slice A m c, .int .i64 x] w fun e w' => e = .returned (.bool (l.contains x)) ∧ Drawn0 w w' := by
  subst hm
  obtain ⟨k, hk⟩ := (among_f l x (Kd.C_max hC)).rounds
  exact horariumref14_Has.calls k A c l x _ w hC hc hk
theorem HasL_q (w : World) (A : Option Addr) (m c : Nat) (l : List Int) (x : Int) (r : Bool) (hm : l.length = m) (hC : (Kd.int .i64).C w A l.length l) (hc : m ≤ c) (hr : l.contains x = r) (k : Nat) :
    Calls Try.prog 24 #[.slice A m c, .int .i64 x] (w.drewN k) fun e w' => e = .returned (.bool r) ∧ ∃ q, w' = (w.drewN k).drewN q := by
  subst hr
  refine (HasL_is (w.drewN k) A m c l x hm (Kd.C_drewN hC k) hc).mono ?_
  rintro e w' ⟨he, hD⟩
  exact ⟨he, hD.out⟩
theorem infoI : (Try.prog.info? 3).map (fun i => (i.zero, i.size, i.bytes)) = some (some (.int .i64 0), 1, 8) := by kernel_rfl
theorem cutT (A : Option Addr) (n c i : Nat) (hi : i ≤ n) (hc : n ≤ c) (W : World) : (Instr.slice 23 (.slice A n c) none (some (.int .i64 (i : Int))) none).run Try.prog W = .ok (.slice A i c) W := by
  obtain ⟨i0, hi0, hz0, hz1, hz2⟩ := info_parts infoI
  exact cut_to 23 3 .i64 Try.underlying23 hi0 A n c (i : Int) (by omega) (by omega) hc W
end Go.Proofs.Ytineikfhfmiidaa.Pm

/- problem.Rule and the document's Rule, walked. -/
namespace Go.Proofs.Ytineikfhfmiidaa.Pm
open Go Go.RowKit Go.Proofs.Ytineikfhfmiidaa.Gp Go.Proofs.Ytineikfhfmiidaa.Mw Go.Proofs.YtineikfhfmiidaaW.PrintWords Go.Proofs.YtineikfhfmiidaaW.PrintLast Go.Proofs.YtineikfhfmiidaaW.PrintMore
set_option linter.unusedVariables false
set_option linter.unusedSimpArgs false
set_option maxRecDepth 100000 in
set_option maxHeartbeats 2000000 in
theorem Rule_is (w : World) (n k : Int) (A : Option Addr) (m c : Nat) (cs : List Int) (a b : Int) (hard : Bool) (cost : Int) (hm : cs.length = m) (hC : (Kd.int .i64).C w A cs.length cs) (hc : m ≤ c) (hn : n ≤ 9223372036854775807) :
    Calls Try.prog 6 #[.int .i64 n, .agg #[.int .i64 k, .slice A m c, .int .i64 a, .int .i64 b, .bool hard, .int .i64 cost]] w fun e w' => e = .returned (.bool (ruleOk n k cs a b hard cost)) ∧ Below w.heap.size w w' := by
  have HC := Aside0.mk hC
  have HM := Aside0.mk hm
  clear hC hm
  cases hkp : kp k with
  | true =>
    have HKp := Aside0.mk hkp
    clear hkp
    cases hnu : numsOk k a b with
    | false =>
      have HNu := Aside0.mk hnu
      clear hnu
      go_enter Try.func6, Try.ntmps6
      go_wp2_with (first
        | ((with_reducible refine gate_dst (N := 3) rfl ?_); refine box_event ?hg (N := 3) ?hd (cs := #[.int .i64 k, .slice A m c, .int .i64 a, .int .i64 b, .bool hard, .int .i64 cost]) (t := 25) ?hr ?_; (case hd => rfl); (case hg => rfl); (case hr => first | (go_simp; done) | (go_simp; rfl)); intro g hg w2 hbox hB; have HP := Aside0.mk (PBox.mk hbox hB (show w.heap.size ≤ g by rw [hg]; exact Nat.le_refl _)); clear hbox hB hg; have hc0 := HP.out.cell 0 rfl; have hc1 := HP.out.cell 1 rfl; have hc2 := HP.out.cell 2 rfl; have hc3 := HP.out.cell 3 rfl; have hc4 := HP.out.cell 4 rfl; have hc5 := HP.out.cell 5 rfl)
        | (go_at_call 16; refine (pair_Known.calls k _ _ (kp_pair k)).mono ?_; rintro e w3 ⟨rfl, hD⟩; rw [HKp.out]; have hB := hD.below; clear hD; have HQ := Aside0.mk (HP.out.below hB); clear HP hB hc0 hc1 hc2 hc3 hc4 hc5; have HP := HQ; clear HQ; have hc0 := HP.out.cell 0 rfl; have hc1 := HP.out.cell 1 rfl; have hc2 := HP.out.cell 2 rfl; have hc3 := HP.out.cell 3 rfl; have hc4 := HP.out.cell 4 rfl; have hc5 := HP.out.cell 5 rfl)
        | (go_at_call 17; refine (many_Known.calls k _ _ (km_many k)).mono ?_; rintro e w3 ⟨rfl, hD⟩; rw [HKm.out]; have hB := hD.below; clear hD; have HQ := Aside0.mk (HP.out.below hB); clear HP hB hc0 hc1 hc2 hc3 hc4 hc5; have HP := HQ; clear HQ; have hc0 := HP.out.cell 0 rfl; have hc1 := HP.out.cell 1 rfl; have hc2 := HP.out.cell 2 rfl; have hc3 := HP.out.cell 3 rfl; have hc4 := HP.out.cell 4 rfl; have hc5 := HP.out.cell 5 rfl)
        | (go_at_call 18; refine (many_Right.calls 5 k a b _ _ (nums_many k a b)).mono ?_; rintro e w3 ⟨rfl, hD⟩; rw [HNu.out]; have hB := hD.below; clear hD; have HQ := Aside0.mk (HP.out.below hB); clear HP hB hc0 hc1 hc2 hc3 hc4 hc5; have HP := HQ; clear HQ; have hc0 := HP.out.cell 0 rfl; have hc1 := HP.out.cell 1 rfl; have hc2 := HP.out.cell 2 rfl; have hc3 := HP.out.cell 3 rfl; have hc4 := HP.out.cell 4 rfl; have hc5 := HP.out.cell 5 rfl))
      go_ret
      rw [show ruleOk n k cs a b hard cost = false from by unfold ruleOk; simp [HM.out, HKp.out, HNu.out]]
      exact ⟨rfl, HP.out.bel⟩
    | true =>
      have HNu := Aside0.mk hnu
      clear hnu
      by_cases hl : m < 2
      · have hl1 : (m : Int) < 2 := by omega
        go_enter Try.func6, Try.ntmps6
        go_wp2_with (first
          | ((with_reducible refine gate_dst (N := 3) rfl ?_); refine box_event ?hg (N := 3) ?hd (cs := #[.int .i64 k, .slice A m c, .int .i64 a, .int .i64 b, .bool hard, .int .i64 cost]) (t := 25) ?hr ?_; (case hd => rfl); (case hg => rfl); (case hr => first | (go_simp; done) | (go_simp; rfl)); intro g hg w2 hbox hB; have HP := Aside0.mk (PBox.mk hbox hB (show w.heap.size ≤ g by rw [hg]; exact Nat.le_refl _)); clear hbox hB hg; have hc0 := HP.out.cell 0 rfl; have hc1 := HP.out.cell 1 rfl; have hc2 := HP.out.cell 2 rfl; have hc3 := HP.out.cell 3 rfl; have hc4 := HP.out.cell 4 rfl; have hc5 := HP.out.cell 5 rfl)
          | (go_at_call 16; refine (pair_Known.calls k _ _ (kp_pair k)).mono ?_; rintro e w3 ⟨rfl, hD⟩; rw [HKp.out]; have hB := hD.below; clear hD; have HQ := Aside0.mk (HP.out.below hB); clear HP hB hc0 hc1 hc2 hc3 hc4 hc5; have HP := HQ; clear HQ; have hc0 := HP.out.cell 0 rfl; have hc1 := HP.out.cell 1 rfl; have hc2 := HP.out.cell 2 rfl; have hc3 := HP.out.cell 3 rfl; have hc4 := HP.out.cell 4 rfl; have hc5 := HP.out.cell 5 rfl)
          | (go_at_call 17; refine (many_Known.calls k _ _ (km_many k)).mono ?_; rintro e w3 ⟨rfl, hD⟩; rw [HKm.out]; have hB := hD.below; clear hD; have HQ := Aside0.mk (HP.out.below hB); clear HP hB hc0 hc1 hc2 hc3 hc4 hc5; have HP := HQ; clear HQ; have hc0 := HP.out.cell 0 rfl; have hc1 := HP.out.cell 1 rfl; have hc2 := HP.out.cell 2 rfl; have hc3 := HP.out.cell 3 rfl; have hc4 := HP.out.cell 4 rfl; have hc5 := HP.out.cell 5 rfl)
          | (go_at_call 18; refine (many_Right.calls 5 k a b _ _ (nums_many k a b)).mono ?_; rintro e w3 ⟨rfl, hD⟩; rw [HNu.out]; have hB := hD.below; clear hD; have HQ := Aside0.mk (HP.out.below hB); clear HP hB hc0 hc1 hc2 hc3 hc4 hc5; have HP := HQ; clear HQ; have hc0 := HP.out.cell 0 rfl; have hc1 := HP.out.cell 1 rfl; have hc2 := HP.out.cell 2 rfl; have hc3 := HP.out.cell 3 rfl; have hc4 := HP.out.cell 4 rfl; have hc5 := HP.out.cell 5 rfl))
        go_ret
        rw [show ruleOk n k cs a b hard cost = false from by unfold ruleOk; simp [HM.out, HKp.out, HNu.out, show ¬ 2 ≤ m by omega]]
        exact ⟨rfl, HP.out.bel⟩
      · have hl1 : ¬ (m : Int) < 2 := by omega
        by_cases hg : 12 < m
        · have hg1 : (12 : Int) < (m : Int) := by omega
          go_enter Try.func6, Try.ntmps6
          go_wp2_with (first
            | ((with_reducible refine gate_dst (N := 3) rfl ?_); refine box_event ?hg (N := 3) ?hd (cs := #[.int .i64 k, .slice A m c, .int .i64 a, .int .i64 b, .bool hard, .int .i64 cost]) (t := 25) ?hr ?_; (case hd => rfl); (case hg => rfl); (case hr => first | (go_simp; done) | (go_simp; rfl)); intro g hg w2 hbox hB; have HP := Aside0.mk (PBox.mk hbox hB (show w.heap.size ≤ g by rw [hg]; exact Nat.le_refl _)); clear hbox hB hg; have hc0 := HP.out.cell 0 rfl; have hc1 := HP.out.cell 1 rfl; have hc2 := HP.out.cell 2 rfl; have hc3 := HP.out.cell 3 rfl; have hc4 := HP.out.cell 4 rfl; have hc5 := HP.out.cell 5 rfl)
            | (go_at_call 16; refine (pair_Known.calls k _ _ (kp_pair k)).mono ?_; rintro e w3 ⟨rfl, hD⟩; rw [HKp.out]; have hB := hD.below; clear hD; have HQ := Aside0.mk (HP.out.below hB); clear HP hB hc0 hc1 hc2 hc3 hc4 hc5; have HP := HQ; clear HQ; have hc0 := HP.out.cell 0 rfl; have hc1 := HP.out.cell 1 rfl; have hc2 := HP.out.cell 2 rfl; have hc3 := HP.out.cell 3 rfl; have hc4 := HP.out.cell 4 rfl; have hc5 := HP.out.cell 5 rfl)
            | (go_at_call 17; refine (many_Known.calls k _ _ (km_many k)).mono ?_; rintro e w3 ⟨rfl, hD⟩; rw [HKm.out]; have hB := hD.below; clear hD; have HQ := Aside0.mk (HP.out.below hB); clear HP hB hc0 hc1 hc2 hc3 hc4 hc5; have HP := HQ; clear HQ; have hc0 := HP.out.cell 0 rfl; have hc1 := HP.out.cell 1 rfl; have hc2 := HP.out.cell 2 rfl; have hc3 := HP.out.cell 3 rfl; have hc4 := HP.out.cell 4 rfl; have hc5 := HP.out.cell 5 rfl)
            | (go_at_call 18; refine (many_Right.calls 5 k a b _ _ (nums_many k a b)).mono ?_; rintro e w3 ⟨rfl, hD⟩; rw [HNu.out]; have hB := hD.below; clear hD; have HQ := Aside0.mk (HP.out.below hB); clear HP hB hc0 hc1 hc2 hc3 hc4 hc5; have HP := HQ; clear HQ; have hc0 := HP.out.cell 0 rfl; have hc1 := HP.out.cell 1 rfl; have hc2 := HP.out.cell 2 rfl; have hc3 := HP.out.cell 3 rfl; have hc4 := HP.out.cell 4 rfl; have hc5 := HP.out.cell 5 rfl))
          go_ret
          rw [show ruleOk n k cs a b hard cost = false from by unfold ruleOk; simp [HM.out, HKp.out, HNu.out, show ¬ m ≤ 12 by omega]]
          exact ⟨rfl, HP.out.bel⟩
        · have hg1 : ¬ (12 : Int) < (m : Int) := by omega
          cases hds : dstB n cs with
          | false =>
            have HDs := Aside0.mk hds
            clear hds
            go_enter Try.func6, Try.ntmps6
            go_wp2_with (first
              | ((with_reducible refine gate_dst (N := 3) rfl ?_); refine box_event ?hg (N := 3) ?hd (cs := #[.int .i64 k, .slice A m c, .int .i64 a, .int .i64 b, .bool hard, .int .i64 cost]) (t := 25) ?hr ?_; (case hd => rfl); (case hg => rfl); (case hr => first | (go_simp; done) | (go_simp; rfl)); intro g hg w2 hbox hB; have HP := Aside0.mk (PBox.mk hbox hB (show w.heap.size ≤ g by rw [hg]; exact Nat.le_refl _)); clear hbox hB hg; have hc0 := HP.out.cell 0 rfl; have hc1 := HP.out.cell 1 rfl; have hc2 := HP.out.cell 2 rfl; have hc3 := HP.out.cell 3 rfl; have hc4 := HP.out.cell 4 rfl; have hc5 := HP.out.cell 5 rfl)
              | (go_at_call 16; refine (pair_Known.calls k _ _ (kp_pair k)).mono ?_; rintro e w3 ⟨rfl, hD⟩; rw [HKp.out]; have hB := hD.below; clear hD; have HQ := Aside0.mk (HP.out.below hB); clear HP hB hc0 hc1 hc2 hc3 hc4 hc5; have HP := HQ; clear HQ; have hc0 := HP.out.cell 0 rfl; have hc1 := HP.out.cell 1 rfl; have hc2 := HP.out.cell 2 rfl; have hc3 := HP.out.cell 3 rfl; have hc4 := HP.out.cell 4 rfl; have hc5 := HP.out.cell 5 rfl)
              | (go_at_call 17; refine (many_Known.calls k _ _ (km_many k)).mono ?_; rintro e w3 ⟨rfl, hD⟩; rw [HKm.out]; have hB := hD.below; clear hD; have HQ := Aside0.mk (HP.out.below hB); clear HP hB hc0 hc1 hc2 hc3 hc4 hc5; have HP := HQ; clear HQ; have hc0 := HP.out.cell 0 rfl; have hc1 := HP.out.cell 1 rfl; have hc2 := HP.out.cell 2 rfl; have hc3 := HP.out.cell 3 rfl; have hc4 := HP.out.cell 4 rfl; have hc5 := HP.out.cell 5 rfl)
              | (go_at_call 18; refine (many_Right.calls 5 k a b _ _ (nums_many k a b)).mono ?_; rintro e w3 ⟨rfl, hD⟩; rw [HNu.out]; have hB := hD.below; clear hD; have HQ := Aside0.mk (HP.out.below hB); clear HP hB hc0 hc1 hc2 hc3 hc4 hc5; have HP := HQ; clear HQ; have hc0 := HP.out.cell 0 rfl; have hc1 := HP.out.cell 1 rfl; have hc2 := HP.out.cell 2 rfl; have hc3 := HP.out.cell 3 rfl; have hc4 := HP.out.cell 4 rfl; have hc5 := HP.out.cell 5 rfl)
              | (go_at_call 19; refine (distinct_is _ A m c cs n HM.out (Kd.C_below HC.out HP.out.bel) hc (by omega) hn).mono ?_; rintro e w3 ⟨rfl, hB⟩; rw [HDs.out]; have HQ := Aside0.mk (HP.out.below hB); clear HP hB hc0 hc1 hc2 hc3 hc4 hc5; have HP := HQ; clear HQ; have hc0 := HP.out.cell 0 rfl; have hc1 := HP.out.cell 1 rfl; have hc2 := HP.out.cell 2 rfl; have hc3 := HP.out.cell 3 rfl; have hc4 := HP.out.cell 4 rfl; have hc5 := HP.out.cell 5 rfl))
            go_ret
            rw [show ruleOk n k cs a b hard cost = false from by unfold ruleOk; simp [HM.out, HKp.out, HNu.out, HDs.out]]
            exact ⟨rfl, HP.out.bel⟩
          | true =>
            have HDs := Aside0.mk hds
            clear hds
            cases hard with
            | true =>
              by_cases hz : cost = 0
              · have hz1 : (cost == 0) = true := by simpa using hz
                have HZ := Aside0.mk hz
                clear hz
                go_enter Try.func6, Try.ntmps6
                go_wp2_with (first
                  | ((with_reducible refine gate_dst (N := 3) rfl ?_); refine box_event ?hg (N := 3) ?hd (cs := #[.int .i64 k, .slice A m c, .int .i64 a, .int .i64 b, .bool true, .int .i64 cost]) (t := 25) ?hr ?_; (case hd => rfl); (case hg => rfl); (case hr => first | (go_simp; done) | (go_simp; rfl)); intro g hg w2 hbox hB; have HP := Aside0.mk (PBox.mk hbox hB (show w.heap.size ≤ g by rw [hg]; exact Nat.le_refl _)); clear hbox hB hg; have hc0 := HP.out.cell 0 rfl; have hc1 := HP.out.cell 1 rfl; have hc2 := HP.out.cell 2 rfl; have hc3 := HP.out.cell 3 rfl; have hc4 := HP.out.cell 4 rfl; have hc5 := HP.out.cell 5 rfl)
                  | (go_at_call 16; refine (pair_Known.calls k _ _ (kp_pair k)).mono ?_; rintro e w3 ⟨rfl, hD⟩; rw [HKp.out]; have hB := hD.below; clear hD; have HQ := Aside0.mk (HP.out.below hB); clear HP hB hc0 hc1 hc2 hc3 hc4 hc5; have HP := HQ; clear HQ; have hc0 := HP.out.cell 0 rfl; have hc1 := HP.out.cell 1 rfl; have hc2 := HP.out.cell 2 rfl; have hc3 := HP.out.cell 3 rfl; have hc4 := HP.out.cell 4 rfl; have hc5 := HP.out.cell 5 rfl)
                  | (go_at_call 17; refine (many_Known.calls k _ _ (km_many k)).mono ?_; rintro e w3 ⟨rfl, hD⟩; rw [HKm.out]; have hB := hD.below; clear hD; have HQ := Aside0.mk (HP.out.below hB); clear HP hB hc0 hc1 hc2 hc3 hc4 hc5; have HP := HQ; clear HQ; have hc0 := HP.out.cell 0 rfl; have hc1 := HP.out.cell 1 rfl; have hc2 := HP.out.cell 2 rfl; have hc3 := HP.out.cell 3 rfl; have hc4 := HP.out.cell 4 rfl; have hc5 := HP.out.cell 5 rfl)
                  | (go_at_call 18; refine (many_Right.calls 5 k a b _ _ (nums_many k a b)).mono ?_; rintro e w3 ⟨rfl, hD⟩; rw [HNu.out]; have hB := hD.below; clear hD; have HQ := Aside0.mk (HP.out.below hB); clear HP hB hc0 hc1 hc2 hc3 hc4 hc5; have HP := HQ; clear HQ; have hc0 := HP.out.cell 0 rfl; have hc1 := HP.out.cell 1 rfl; have hc2 := HP.out.cell 2 rfl; have hc3 := HP.out.cell 3 rfl; have hc4 := HP.out.cell 4 rfl; have hc5 := HP.out.cell 5 rfl)
                  | (go_at_call 19; refine (distinct_is _ A m c cs n HM.out (Kd.C_below HC.out HP.out.bel) hc (by omega) hn).mono ?_; rintro e w3 ⟨rfl, hB⟩; rw [HDs.out]; have HQ := Aside0.mk (HP.out.below hB); clear HP hB hc0 hc1 hc2 hc3 hc4 hc5; have HP := HQ; clear HQ; have hc0 := HP.out.cell 0 rfl; have hc1 := HP.out.cell 1 rfl; have hc2 := HP.out.cell 2 rfl; have hc3 := HP.out.cell 3 rfl; have hc4 := HP.out.cell 4 rfl; have hc5 := HP.out.cell 5 rfl))
                go_ret
                rw [show ruleOk n k cs a b true cost = true from by unfold ruleOk; simp [HM.out, HKp.out, HNu.out, HDs.out, show 2 ≤ m by omega, show m ≤ 12 by omega, HZ.out]]
                exact ⟨rfl, HP.out.bel⟩
              · have hz1 : (cost == 0) = false := by simpa using hz
                have hz2 : decide (cost = 0) = false := decide_eq_false hz
                have HZ := Aside0.mk hz
                clear hz
                go_enter Try.func6, Try.ntmps6
                go_wp2_with (first
                  | ((with_reducible refine gate_dst (N := 3) rfl ?_); refine box_event ?hg (N := 3) ?hd (cs := #[.int .i64 k, .slice A m c, .int .i64 a, .int .i64 b, .bool true, .int .i64 cost]) (t := 25) ?hr ?_; (case hd => rfl); (case hg => rfl); (case hr => first | (go_simp; done) | (go_simp; rfl)); intro g hg w2 hbox hB; have HP := Aside0.mk (PBox.mk hbox hB (show w.heap.size ≤ g by rw [hg]; exact Nat.le_refl _)); clear hbox hB hg; have hc0 := HP.out.cell 0 rfl; have hc1 := HP.out.cell 1 rfl; have hc2 := HP.out.cell 2 rfl; have hc3 := HP.out.cell 3 rfl; have hc4 := HP.out.cell 4 rfl; have hc5 := HP.out.cell 5 rfl)
                  | (go_at_call 16; refine (pair_Known.calls k _ _ (kp_pair k)).mono ?_; rintro e w3 ⟨rfl, hD⟩; rw [HKp.out]; have hB := hD.below; clear hD; have HQ := Aside0.mk (HP.out.below hB); clear HP hB hc0 hc1 hc2 hc3 hc4 hc5; have HP := HQ; clear HQ; have hc0 := HP.out.cell 0 rfl; have hc1 := HP.out.cell 1 rfl; have hc2 := HP.out.cell 2 rfl; have hc3 := HP.out.cell 3 rfl; have hc4 := HP.out.cell 4 rfl; have hc5 := HP.out.cell 5 rfl)
                  | (go_at_call 17; refine (many_Known.calls k _ _ (km_many k)).mono ?_; rintro e w3 ⟨rfl, hD⟩; rw [HKm.out]; have hB := hD.below; clear hD; have HQ := Aside0.mk (HP.out.below hB); clear HP hB hc0 hc1 hc2 hc3 hc4 hc5; have HP := HQ; clear HQ; have hc0 := HP.out.cell 0 rfl; have hc1 := HP.out.cell 1 rfl; have hc2 := HP.out.cell 2 rfl; have hc3 := HP.out.cell 3 rfl; have hc4 := HP.out.cell 4 rfl; have hc5 := HP.out.cell 5 rfl)
                  | (go_at_call 18; refine (many_Right.calls 5 k a b _ _ (nums_many k a b)).mono ?_; rintro e w3 ⟨rfl, hD⟩; rw [HNu.out]; have hB := hD.below; clear hD; have HQ := Aside0.mk (HP.out.below hB); clear HP hB hc0 hc1 hc2 hc3 hc4 hc5; have HP := HQ; clear HQ; have hc0 := HP.out.cell 0 rfl; have hc1 := HP.out.cell 1 rfl; have hc2 := HP.out.cell 2 rfl; have hc3 := HP.out.cell 3 rfl; have hc4 := HP.out.cell 4 rfl; have hc5 := HP.out.cell 5 rfl)
                  | (go_at_call 19; refine (distinct_is _ A m c cs n HM.out (Kd.C_below HC.out HP.out.bel) hc (by omega) hn).mono ?_; rintro e w3 ⟨rfl, hB⟩; rw [HDs.out]; have HQ := Aside0.mk (HP.out.below hB); clear HP hB hc0 hc1 hc2 hc3 hc4 hc5; have HP := HQ; clear HQ; have hc0 := HP.out.cell 0 rfl; have hc1 := HP.out.cell 1 rfl; have hc2 := HP.out.cell 2 rfl; have hc3 := HP.out.cell 3 rfl; have hc4 := HP.out.cell 4 rfl; have hc5 := HP.out.cell 5 rfl))
                go_ret
                rw [show ruleOk n k cs a b true cost = false from by unfold ruleOk; simp [HM.out, HKp.out, HNu.out, HDs.out, show 2 ≤ m by omega, show m ≤ 12 by omega, HZ.out]]
                exact ⟨rfl, HP.out.bel⟩
            | false =>
              by_cases h1 : 1 ≤ cost
              · by_cases h2 : cost ≤ 1000
                · have HCo := Aside0.mk (show (decide (0 ≤ cost) && decide (cost ≤ 1000)) = true by rw [Bool.and_eq_true]; exact ⟨decide_eq_true (by omega), decide_eq_true h2⟩)
                  have H1 := Aside0.mk h1
                  have H2 := Aside0.mk h2
                  go_enter Try.func6, Try.ntmps6
                  go_wp2_with (first
                    | ((with_reducible refine gate_dst (N := 3) rfl ?_); refine box_event ?hg (N := 3) ?hd (cs := #[.int .i64 k, .slice A m c, .int .i64 a, .int .i64 b, .bool false, .int .i64 cost]) (t := 25) ?hr ?_; (case hd => rfl); (case hg => rfl); (case hr => first | (go_simp; done) | (go_simp; rfl)); intro g hg w2 hbox hB; have HP := Aside0.mk (PBox.mk hbox hB (show w.heap.size ≤ g by rw [hg]; exact Nat.le_refl _)); clear hbox hB hg; have hc0 := HP.out.cell 0 rfl; have hc1 := HP.out.cell 1 rfl; have hc2 := HP.out.cell 2 rfl; have hc3 := HP.out.cell 3 rfl; have hc4 := HP.out.cell 4 rfl; have hc5 := HP.out.cell 5 rfl)
                    | (go_at_call 16; refine (pair_Known.calls k _ _ (kp_pair k)).mono ?_; rintro e w3 ⟨rfl, hD⟩; rw [HKp.out]; have hB := hD.below; clear hD; have HQ := Aside0.mk (HP.out.below hB); clear HP hB hc0 hc1 hc2 hc3 hc4 hc5; have HP := HQ; clear HQ; have hc0 := HP.out.cell 0 rfl; have hc1 := HP.out.cell 1 rfl; have hc2 := HP.out.cell 2 rfl; have hc3 := HP.out.cell 3 rfl; have hc4 := HP.out.cell 4 rfl; have hc5 := HP.out.cell 5 rfl)
                    | (go_at_call 17; refine (many_Known.calls k _ _ (km_many k)).mono ?_; rintro e w3 ⟨rfl, hD⟩; rw [HKm.out]; have hB := hD.below; clear hD; have HQ := Aside0.mk (HP.out.below hB); clear HP hB hc0 hc1 hc2 hc3 hc4 hc5; have HP := HQ; clear HQ; have hc0 := HP.out.cell 0 rfl; have hc1 := HP.out.cell 1 rfl; have hc2 := HP.out.cell 2 rfl; have hc3 := HP.out.cell 3 rfl; have hc4 := HP.out.cell 4 rfl; have hc5 := HP.out.cell 5 rfl)
                    | (go_at_call 18; refine (many_Right.calls 5 k a b _ _ (nums_many k a b)).mono ?_; rintro e w3 ⟨rfl, hD⟩; rw [HNu.out]; have hB := hD.below; clear hD; have HQ := Aside0.mk (HP.out.below hB); clear HP hB hc0 hc1 hc2 hc3 hc4 hc5; have HP := HQ; clear HQ; have hc0 := HP.out.cell 0 rfl; have hc1 := HP.out.cell 1 rfl; have hc2 := HP.out.cell 2 rfl; have hc3 := HP.out.cell 3 rfl; have hc4 := HP.out.cell 4 rfl; have hc5 := HP.out.cell 5 rfl)
                    | (go_at_call 19; refine (distinct_is _ A m c cs n HM.out (Kd.C_below HC.out HP.out.bel) hc (by omega) hn).mono ?_; rintro e w3 ⟨rfl, hB⟩; rw [HDs.out]; have HQ := Aside0.mk (HP.out.below hB); clear HP hB hc0 hc1 hc2 hc3 hc4 hc5; have HP := HQ; clear HQ; have hc0 := HP.out.cell 0 rfl; have hc1 := HP.out.cell 1 rfl; have hc2 := HP.out.cell 2 rfl; have hc3 := HP.out.cell 3 rfl; have hc4 := HP.out.cell 4 rfl; have hc5 := HP.out.cell 5 rfl)
                    | (go_at_call 20; refine (problem_cost.calls cost _ _ (cost_eq cost)).mono ?_; rintro e w3 ⟨rfl, hD⟩; rw [HCo.out]; have hB := hD.below; clear hD; have HQ := Aside0.mk (HP.out.below hB); clear HP hB hc0 hc1 hc2 hc3 hc4 hc5; have HP := HQ; clear HQ; have hc0 := HP.out.cell 0 rfl; have hc1 := HP.out.cell 1 rfl; have hc2 := HP.out.cell 2 rfl; have hc3 := HP.out.cell 3 rfl; have hc4 := HP.out.cell 4 rfl; have hc5 := HP.out.cell 5 rfl))
                  go_ret
                  rw [show ruleOk n k cs a b false cost = true from by unfold ruleOk; simp [HM.out, HKp.out, HNu.out, HDs.out, show 2 ≤ m by omega, show m ≤ 12 by omega, H1.out, H2.out]]
                  exact ⟨rfl, HP.out.bel⟩
                · have HCo := Aside0.mk (show (decide (0 ≤ cost) && decide (cost ≤ 1000)) = false by rw [decide_eq_false h2, Bool.and_false])
                  have h2' : decide (cost ≤ 1000) = false := decide_eq_false h2
                  have H2 := Aside0.mk h2
                  go_enter Try.func6, Try.ntmps6
                  go_wp2_with (first
                    | ((with_reducible refine gate_dst (N := 3) rfl ?_); refine box_event ?hg (N := 3) ?hd (cs := #[.int .i64 k, .slice A m c, .int .i64 a, .int .i64 b, .bool false, .int .i64 cost]) (t := 25) ?hr ?_; (case hd => rfl); (case hg => rfl); (case hr => first | (go_simp; done) | (go_simp; rfl)); intro g hg w2 hbox hB; have HP := Aside0.mk (PBox.mk hbox hB (show w.heap.size ≤ g by rw [hg]; exact Nat.le_refl _)); clear hbox hB hg; have hc0 := HP.out.cell 0 rfl; have hc1 := HP.out.cell 1 rfl; have hc2 := HP.out.cell 2 rfl; have hc3 := HP.out.cell 3 rfl; have hc4 := HP.out.cell 4 rfl; have hc5 := HP.out.cell 5 rfl)
                    | (go_at_call 16; refine (pair_Known.calls k _ _ (kp_pair k)).mono ?_; rintro e w3 ⟨rfl, hD⟩; rw [HKp.out]; have hB := hD.below; clear hD; have HQ := Aside0.mk (HP.out.below hB); clear HP hB hc0 hc1 hc2 hc3 hc4 hc5; have HP := HQ; clear HQ; have hc0 := HP.out.cell 0 rfl; have hc1 := HP.out.cell 1 rfl; have hc2 := HP.out.cell 2 rfl; have hc3 := HP.out.cell 3 rfl; have hc4 := HP.out.cell 4 rfl; have hc5 := HP.out.cell 5 rfl)
                    | (go_at_call 17; refine (many_Known.calls k _ _ (km_many k)).mono ?_; rintro e w3 ⟨rfl, hD⟩; rw [HKm.out]; have hB := hD.below; clear hD; have HQ := Aside0.mk (HP.out.below hB); clear HP hB hc0 hc1 hc2 hc3 hc4 hc5; have HP := HQ; clear HQ; have hc0 := HP.out.cell 0 rfl; have hc1 := HP.out.cell 1 rfl; have hc2 := HP.out.cell 2 rfl; have hc3 := HP.out.cell 3 rfl; have hc4 := HP.out.cell 4 rfl; have hc5 := HP.out.cell 5 rfl)
                    | (go_at_call 18; refine (many_Right.calls 5 k a b _ _ (nums_many k a b)).mono ?_; rintro e w3 ⟨rfl, hD⟩; rw [HNu.out]; have hB := hD.below; clear hD; have HQ := Aside0.mk (HP.out.below hB); clear HP hB hc0 hc1 hc2 hc3 hc4 hc5; have HP := HQ; clear HQ; have hc0 := HP.out.cell 0 rfl; have hc1 := HP.out.cell 1 rfl; have hc2 := HP.out.cell 2 rfl; have hc3 := HP.out.cell 3 rfl; have hc4 := HP.out.cell 4 rfl; have hc5 := HP.out.cell 5 rfl)
                    | (go_at_call 19; refine (distinct_is _ A m c cs n HM.out (Kd.C_below HC.out HP.out.bel) hc (by omega) hn).mono ?_; rintro e w3 ⟨rfl, hB⟩; rw [HDs.out]; have HQ := Aside0.mk (HP.out.below hB); clear HP hB hc0 hc1 hc2 hc3 hc4 hc5; have HP := HQ; clear HQ; have hc0 := HP.out.cell 0 rfl; have hc1 := HP.out.cell 1 rfl; have hc2 := HP.out.cell 2 rfl; have hc3 := HP.out.cell 3 rfl; have hc4 := HP.out.cell 4 rfl; have hc5 := HP.out.cell 5 rfl)
                    | (go_at_call 20; refine (problem_cost.calls cost _ _ (cost_eq cost)).mono ?_; rintro e w3 ⟨rfl, hD⟩; rw [HCo.out]; have hB := hD.below; clear hD; have HQ := Aside0.mk (HP.out.below hB); clear HP hB hc0 hc1 hc2 hc3 hc4 hc5; have HP := HQ; clear HQ; have hc0 := HP.out.cell 0 rfl; have hc1 := HP.out.cell 1 rfl; have hc2 := HP.out.cell 2 rfl; have hc3 := HP.out.cell 3 rfl; have hc4 := HP.out.cell 4 rfl; have hc5 := HP.out.cell 5 rfl))
                  go_ret
                  rw [show ruleOk n k cs a b false cost = false from by unfold ruleOk; simp [HM.out, HKp.out, HNu.out, HDs.out, show 2 ≤ m by omega, show m ≤ 12 by omega, H2.out]]
                  exact ⟨rfl, HP.out.bel⟩
              · have h1' : decide (1 ≤ cost) = false := decide_eq_false h1
                have H1 := Aside0.mk h1
                go_enter Try.func6, Try.ntmps6
                go_wp2_with (first
                  | ((with_reducible refine gate_dst (N := 3) rfl ?_); refine box_event ?hg (N := 3) ?hd (cs := #[.int .i64 k, .slice A m c, .int .i64 a, .int .i64 b, .bool false, .int .i64 cost]) (t := 25) ?hr ?_; (case hd => rfl); (case hg => rfl); (case hr => first | (go_simp; done) | (go_simp; rfl)); intro g hg w2 hbox hB; have HP := Aside0.mk (PBox.mk hbox hB (show w.heap.size ≤ g by rw [hg]; exact Nat.le_refl _)); clear hbox hB hg; have hc0 := HP.out.cell 0 rfl; have hc1 := HP.out.cell 1 rfl; have hc2 := HP.out.cell 2 rfl; have hc3 := HP.out.cell 3 rfl; have hc4 := HP.out.cell 4 rfl; have hc5 := HP.out.cell 5 rfl)
                  | (go_at_call 16; refine (pair_Known.calls k _ _ (kp_pair k)).mono ?_; rintro e w3 ⟨rfl, hD⟩; rw [HKp.out]; have hB := hD.below; clear hD; have HQ := Aside0.mk (HP.out.below hB); clear HP hB hc0 hc1 hc2 hc3 hc4 hc5; have HP := HQ; clear HQ; have hc0 := HP.out.cell 0 rfl; have hc1 := HP.out.cell 1 rfl; have hc2 := HP.out.cell 2 rfl; have hc3 := HP.out.cell 3 rfl; have hc4 := HP.out.cell 4 rfl; have hc5 := HP.out.cell 5 rfl)
                  | (go_at_call 17; refine (many_Known.calls k _ _ (km_many k)).mono ?_; rintro e w3 ⟨rfl, hD⟩; rw [HKm.out]; have hB := hD.below; clear hD; have HQ := Aside0.mk (HP.out.below hB); clear HP hB hc0 hc1 hc2 hc3 hc4 hc5; have HP := HQ; clear HQ; have hc0 := HP.out.cell 0 rfl; have hc1 := HP.out.cell 1 rfl; have hc2 := HP.out.cell 2 rfl; have hc3 := HP.out.cell 3 rfl; have hc4 := HP.out.cell 4 rfl; have hc5 := HP.out.cell 5 rfl)
                  | (go_at_call 18; refine (many_Right.calls 5 k a b _ _ (nums_many k a b)).mono ?_; rintro e w3 ⟨rfl, hD⟩; rw [HNu.out]; have hB := hD.below; clear hD; have HQ := Aside0.mk (HP.out.below hB); clear HP hB hc0 hc1 hc2 hc3 hc4 hc5; have HP := HQ; clear HQ; have hc0 := HP.out.cell 0 rfl; have hc1 := HP.out.cell 1 rfl; have hc2 := HP.out.cell 2 rfl; have hc3 := HP.out.cell 3 rfl; have hc4 := HP.out.cell 4 rfl; have hc5 := HP.out.cell 5 rfl)
                  | (go_at_call 19; refine (distinct_is _ A m c cs n HM.out (Kd.C_below HC.out HP.out.bel) hc (by omega) hn).mono ?_; rintro e w3 ⟨rfl, hB⟩; rw [HDs.out]; have HQ := Aside0.mk (HP.out.below hB); clear HP hB hc0 hc1 hc2 hc3 hc4 hc5; have HP := HQ; clear HQ; have hc0 := HP.out.cell 0 rfl; have hc1 := HP.out.cell 1 rfl; have hc2 := HP.out.cell 2 rfl; have hc3 := HP.out.cell 3 rfl; have hc4 := HP.out.cell 4 rfl; have hc5 := HP.out.cell 5 rfl)
                  | (go_at_call 20; refine (problem_cost.calls cost _ _ (cost_eq cost)).mono ?_; rintro e w3 ⟨rfl, hD⟩; rw [HCo.out]; have hB := hD.below; clear hD; have HQ := Aside0.mk (HP.out.below hB); clear HP hB hc0 hc1 hc2 hc3 hc4 hc5; have HP := HQ; clear HQ; have hc0 := HP.out.cell 0 rfl; have hc1 := HP.out.cell 1 rfl; have hc2 := HP.out.cell 2 rfl; have hc3 := HP.out.cell 3 rfl; have hc4 := HP.out.cell 4 rfl; have hc5 := HP.out.cell 5 rfl))
                go_ret
                rw [show ruleOk n k cs a b false cost = false from by unfold ruleOk; simp [HM.out, HKp.out, HNu.out, HDs.out, show 2 ≤ m by omega, show m ≤ 12 by omega, show ¬ 1 ≤ cost by have := H1.out; omega]]
                exact ⟨rfl, HP.out.bel⟩
  | false =>
    have HKp := Aside0.mk hkp
    clear hkp
    cases hkm : km k with
    | true =>
      have HKm := Aside0.mk hkm
      clear hkm
      cases hnu : numsOk k a b with
      | false =>
        have HNu := Aside0.mk hnu
        clear hnu
        go_enter Try.func6, Try.ntmps6
        go_wp2_with (first
          | ((with_reducible refine gate_dst (N := 3) rfl ?_); refine box_event ?hg (N := 3) ?hd (cs := #[.int .i64 k, .slice A m c, .int .i64 a, .int .i64 b, .bool hard, .int .i64 cost]) (t := 25) ?hr ?_; (case hd => rfl); (case hg => rfl); (case hr => first | (go_simp; done) | (go_simp; rfl)); intro g hg w2 hbox hB; have HP := Aside0.mk (PBox.mk hbox hB (show w.heap.size ≤ g by rw [hg]; exact Nat.le_refl _)); clear hbox hB hg; have hc0 := HP.out.cell 0 rfl; have hc1 := HP.out.cell 1 rfl; have hc2 := HP.out.cell 2 rfl; have hc3 := HP.out.cell 3 rfl; have hc4 := HP.out.cell 4 rfl; have hc5 := HP.out.cell 5 rfl)
          | (go_at_call 16; refine (pair_Known.calls k _ _ (kp_pair k)).mono ?_; rintro e w3 ⟨rfl, hD⟩; rw [HKp.out]; have hB := hD.below; clear hD; have HQ := Aside0.mk (HP.out.below hB); clear HP hB hc0 hc1 hc2 hc3 hc4 hc5; have HP := HQ; clear HQ; have hc0 := HP.out.cell 0 rfl; have hc1 := HP.out.cell 1 rfl; have hc2 := HP.out.cell 2 rfl; have hc3 := HP.out.cell 3 rfl; have hc4 := HP.out.cell 4 rfl; have hc5 := HP.out.cell 5 rfl)
          | (go_at_call 17; refine (many_Known.calls k _ _ (km_many k)).mono ?_; rintro e w3 ⟨rfl, hD⟩; rw [HKm.out]; have hB := hD.below; clear hD; have HQ := Aside0.mk (HP.out.below hB); clear HP hB hc0 hc1 hc2 hc3 hc4 hc5; have HP := HQ; clear HQ; have hc0 := HP.out.cell 0 rfl; have hc1 := HP.out.cell 1 rfl; have hc2 := HP.out.cell 2 rfl; have hc3 := HP.out.cell 3 rfl; have hc4 := HP.out.cell 4 rfl; have hc5 := HP.out.cell 5 rfl)
          | (go_at_call 18; refine (many_Right.calls 5 k a b _ _ (nums_many k a b)).mono ?_; rintro e w3 ⟨rfl, hD⟩; rw [HNu.out]; have hB := hD.below; clear hD; have HQ := Aside0.mk (HP.out.below hB); clear HP hB hc0 hc1 hc2 hc3 hc4 hc5; have HP := HQ; clear HQ; have hc0 := HP.out.cell 0 rfl; have hc1 := HP.out.cell 1 rfl; have hc2 := HP.out.cell 2 rfl; have hc3 := HP.out.cell 3 rfl; have hc4 := HP.out.cell 4 rfl; have hc5 := HP.out.cell 5 rfl))
        go_ret
        rw [show ruleOk n k cs a b hard cost = false from by unfold ruleOk; simp [HM.out, HKp.out, HKm.out, HNu.out]]
        exact ⟨rfl, HP.out.bel⟩
      | true =>
        have HNu := Aside0.mk hnu
        clear hnu
        by_cases hl : m < 2
        · have hl1 : (m : Int) < 2 := by omega
          go_enter Try.func6, Try.ntmps6
          go_wp2_with (first
            | ((with_reducible refine gate_dst (N := 3) rfl ?_); refine box_event ?hg (N := 3) ?hd (cs := #[.int .i64 k, .slice A m c, .int .i64 a, .int .i64 b, .bool hard, .int .i64 cost]) (t := 25) ?hr ?_; (case hd => rfl); (case hg => rfl); (case hr => first | (go_simp; done) | (go_simp; rfl)); intro g hg w2 hbox hB; have HP := Aside0.mk (PBox.mk hbox hB (show w.heap.size ≤ g by rw [hg]; exact Nat.le_refl _)); clear hbox hB hg; have hc0 := HP.out.cell 0 rfl; have hc1 := HP.out.cell 1 rfl; have hc2 := HP.out.cell 2 rfl; have hc3 := HP.out.cell 3 rfl; have hc4 := HP.out.cell 4 rfl; have hc5 := HP.out.cell 5 rfl)
            | (go_at_call 16; refine (pair_Known.calls k _ _ (kp_pair k)).mono ?_; rintro e w3 ⟨rfl, hD⟩; rw [HKp.out]; have hB := hD.below; clear hD; have HQ := Aside0.mk (HP.out.below hB); clear HP hB hc0 hc1 hc2 hc3 hc4 hc5; have HP := HQ; clear HQ; have hc0 := HP.out.cell 0 rfl; have hc1 := HP.out.cell 1 rfl; have hc2 := HP.out.cell 2 rfl; have hc3 := HP.out.cell 3 rfl; have hc4 := HP.out.cell 4 rfl; have hc5 := HP.out.cell 5 rfl)
            | (go_at_call 17; refine (many_Known.calls k _ _ (km_many k)).mono ?_; rintro e w3 ⟨rfl, hD⟩; rw [HKm.out]; have hB := hD.below; clear hD; have HQ := Aside0.mk (HP.out.below hB); clear HP hB hc0 hc1 hc2 hc3 hc4 hc5; have HP := HQ; clear HQ; have hc0 := HP.out.cell 0 rfl; have hc1 := HP.out.cell 1 rfl; have hc2 := HP.out.cell 2 rfl; have hc3 := HP.out.cell 3 rfl; have hc4 := HP.out.cell 4 rfl; have hc5 := HP.out.cell 5 rfl)
            | (go_at_call 18; refine (many_Right.calls 5 k a b _ _ (nums_many k a b)).mono ?_; rintro e w3 ⟨rfl, hD⟩; rw [HNu.out]; have hB := hD.below; clear hD; have HQ := Aside0.mk (HP.out.below hB); clear HP hB hc0 hc1 hc2 hc3 hc4 hc5; have HP := HQ; clear HQ; have hc0 := HP.out.cell 0 rfl; have hc1 := HP.out.cell 1 rfl; have hc2 := HP.out.cell 2 rfl; have hc3 := HP.out.cell 3 rfl; have hc4 := HP.out.cell 4 rfl; have hc5 := HP.out.cell 5 rfl))
          go_ret
          rw [show ruleOk n k cs a b hard cost = false from by unfold ruleOk; simp [HM.out, HKp.out, HKm.out, HNu.out, show ¬ 2 ≤ m by omega]]
          exact ⟨rfl, HP.out.bel⟩
        · have hl1 : ¬ (m : Int) < 2 := by omega
          by_cases hg : 12 < m
          · have hg1 : (12 : Int) < (m : Int) := by omega
            go_enter Try.func6, Try.ntmps6
            go_wp2_with (first
              | ((with_reducible refine gate_dst (N := 3) rfl ?_); refine box_event ?hg (N := 3) ?hd (cs := #[.int .i64 k, .slice A m c, .int .i64 a, .int .i64 b, .bool hard, .int .i64 cost]) (t := 25) ?hr ?_; (case hd => rfl); (case hg => rfl); (case hr => first | (go_simp; done) | (go_simp; rfl)); intro g hg w2 hbox hB; have HP := Aside0.mk (PBox.mk hbox hB (show w.heap.size ≤ g by rw [hg]; exact Nat.le_refl _)); clear hbox hB hg; have hc0 := HP.out.cell 0 rfl; have hc1 := HP.out.cell 1 rfl; have hc2 := HP.out.cell 2 rfl; have hc3 := HP.out.cell 3 rfl; have hc4 := HP.out.cell 4 rfl; have hc5 := HP.out.cell 5 rfl)
              | (go_at_call 16; refine (pair_Known.calls k _ _ (kp_pair k)).mono ?_; rintro e w3 ⟨rfl, hD⟩; rw [HKp.out]; have hB := hD.below; clear hD; have HQ := Aside0.mk (HP.out.below hB); clear HP hB hc0 hc1 hc2 hc3 hc4 hc5; have HP := HQ; clear HQ; have hc0 := HP.out.cell 0 rfl; have hc1 := HP.out.cell 1 rfl; have hc2 := HP.out.cell 2 rfl; have hc3 := HP.out.cell 3 rfl; have hc4 := HP.out.cell 4 rfl; have hc5 := HP.out.cell 5 rfl)
              | (go_at_call 17; refine (many_Known.calls k _ _ (km_many k)).mono ?_; rintro e w3 ⟨rfl, hD⟩; rw [HKm.out]; have hB := hD.below; clear hD; have HQ := Aside0.mk (HP.out.below hB); clear HP hB hc0 hc1 hc2 hc3 hc4 hc5; have HP := HQ; clear HQ; have hc0 := HP.out.cell 0 rfl; have hc1 := HP.out.cell 1 rfl; have hc2 := HP.out.cell 2 rfl; have hc3 := HP.out.cell 3 rfl; have hc4 := HP.out.cell 4 rfl; have hc5 := HP.out.cell 5 rfl)
              | (go_at_call 18; refine (many_Right.calls 5 k a b _ _ (nums_many k a b)).mono ?_; rintro e w3 ⟨rfl, hD⟩; rw [HNu.out]; have hB := hD.below; clear hD; have HQ := Aside0.mk (HP.out.below hB); clear HP hB hc0 hc1 hc2 hc3 hc4 hc5; have HP := HQ; clear HQ; have hc0 := HP.out.cell 0 rfl; have hc1 := HP.out.cell 1 rfl; have hc2 := HP.out.cell 2 rfl; have hc3 := HP.out.cell 3 rfl; have hc4 := HP.out.cell 4 rfl; have hc5 := HP.out.cell 5 rfl))
            go_ret
            rw [show ruleOk n k cs a b hard cost = false from by unfold ruleOk; simp [HM.out, HKp.out, HKm.out, HNu.out, show ¬ m ≤ 12 by omega]]
            exact ⟨rfl, HP.out.bel⟩
          · have hg1 : ¬ (12 : Int) < (m : Int) := by omega
            cases hds : dstB n cs with
            | false =>
              have HDs := Aside0.mk hds
              clear hds
              go_enter Try.func6, Try.ntmps6
              go_wp2_with (first
                | ((with_reducible refine gate_dst (N := 3) rfl ?_); refine box_event ?hg (N := 3) ?hd (cs := #[.int .i64 k, .slice A m c, .int .i64 a, .int .i64 b, .bool hard, .int .i64 cost]) (t := 25) ?hr ?_; (case hd => rfl); (case hg => rfl); (case hr => first | (go_simp; done) | (go_simp; rfl)); intro g hg w2 hbox hB; have HP := Aside0.mk (PBox.mk hbox hB (show w.heap.size ≤ g by rw [hg]; exact Nat.le_refl _)); clear hbox hB hg; have hc0 := HP.out.cell 0 rfl; have hc1 := HP.out.cell 1 rfl; have hc2 := HP.out.cell 2 rfl; have hc3 := HP.out.cell 3 rfl; have hc4 := HP.out.cell 4 rfl; have hc5 := HP.out.cell 5 rfl)
                | (go_at_call 16; refine (pair_Known.calls k _ _ (kp_pair k)).mono ?_; rintro e w3 ⟨rfl, hD⟩; rw [HKp.out]; have hB := hD.below; clear hD; have HQ := Aside0.mk (HP.out.below hB); clear HP hB hc0 hc1 hc2 hc3 hc4 hc5; have HP := HQ; clear HQ; have hc0 := HP.out.cell 0 rfl; have hc1 := HP.out.cell 1 rfl; have hc2 := HP.out.cell 2 rfl; have hc3 := HP.out.cell 3 rfl; have hc4 := HP.out.cell 4 rfl; have hc5 := HP.out.cell 5 rfl)
                | (go_at_call 17; refine (many_Known.calls k _ _ (km_many k)).mono ?_; rintro e w3 ⟨rfl, hD⟩; rw [HKm.out]; have hB := hD.below; clear hD; have HQ := Aside0.mk (HP.out.below hB); clear HP hB hc0 hc1 hc2 hc3 hc4 hc5; have HP := HQ; clear HQ; have hc0 := HP.out.cell 0 rfl; have hc1 := HP.out.cell 1 rfl; have hc2 := HP.out.cell 2 rfl; have hc3 := HP.out.cell 3 rfl; have hc4 := HP.out.cell 4 rfl; have hc5 := HP.out.cell 5 rfl)
                | (go_at_call 18; refine (many_Right.calls 5 k a b _ _ (nums_many k a b)).mono ?_; rintro e w3 ⟨rfl, hD⟩; rw [HNu.out]; have hB := hD.below; clear hD; have HQ := Aside0.mk (HP.out.below hB); clear HP hB hc0 hc1 hc2 hc3 hc4 hc5; have HP := HQ; clear HQ; have hc0 := HP.out.cell 0 rfl; have hc1 := HP.out.cell 1 rfl; have hc2 := HP.out.cell 2 rfl; have hc3 := HP.out.cell 3 rfl; have hc4 := HP.out.cell 4 rfl; have hc5 := HP.out.cell 5 rfl)
                | (go_at_call 19; refine (distinct_is _ A m c cs n HM.out (Kd.C_below HC.out HP.out.bel) hc (by omega) hn).mono ?_; rintro e w3 ⟨rfl, hB⟩; rw [HDs.out]; have HQ := Aside0.mk (HP.out.below hB); clear HP hB hc0 hc1 hc2 hc3 hc4 hc5; have HP := HQ; clear HQ; have hc0 := HP.out.cell 0 rfl; have hc1 := HP.out.cell 1 rfl; have hc2 := HP.out.cell 2 rfl; have hc3 := HP.out.cell 3 rfl; have hc4 := HP.out.cell 4 rfl; have hc5 := HP.out.cell 5 rfl))
              go_ret
              rw [show ruleOk n k cs a b hard cost = false from by unfold ruleOk; simp [HM.out, HKp.out, HKm.out, HNu.out, HDs.out]]
              exact ⟨rfl, HP.out.bel⟩
            | true =>
              have HDs := Aside0.mk hds
              clear hds
              cases hard with
              | true =>
                by_cases hz : cost = 0
                · have hz1 : (cost == 0) = true := by simpa using hz
                  have HZ := Aside0.mk hz
                  clear hz
                  go_enter Try.func6, Try.ntmps6
                  go_wp2_with (first
                    | ((with_reducible refine gate_dst (N := 3) rfl ?_); refine box_event ?hg (N := 3) ?hd (cs := #[.int .i64 k, .slice A m c, .int .i64 a, .int .i64 b, .bool true, .int .i64 cost]) (t := 25) ?hr ?_; (case hd => rfl); (case hg => rfl); (case hr => first | (go_simp; done) | (go_simp; rfl)); intro g hg w2 hbox hB; have HP := Aside0.mk (PBox.mk hbox hB (show w.heap.size ≤ g by rw [hg]; exact Nat.le_refl _)); clear hbox hB hg; have hc0 := HP.out.cell 0 rfl; have hc1 := HP.out.cell 1 rfl; have hc2 := HP.out.cell 2 rfl; have hc3 := HP.out.cell 3 rfl; have hc4 := HP.out.cell 4 rfl; have hc5 := HP.out.cell 5 rfl)
                    | (go_at_call 16; refine (pair_Known.calls k _ _ (kp_pair k)).mono ?_; rintro e w3 ⟨rfl, hD⟩; rw [HKp.out]; have hB := hD.below; clear hD; have HQ := Aside0.mk (HP.out.below hB); clear HP hB hc0 hc1 hc2 hc3 hc4 hc5; have HP := HQ; clear HQ; have hc0 := HP.out.cell 0 rfl; have hc1 := HP.out.cell 1 rfl; have hc2 := HP.out.cell 2 rfl; have hc3 := HP.out.cell 3 rfl; have hc4 := HP.out.cell 4 rfl; have hc5 := HP.out.cell 5 rfl)
                    | (go_at_call 17; refine (many_Known.calls k _ _ (km_many k)).mono ?_; rintro e w3 ⟨rfl, hD⟩; rw [HKm.out]; have hB := hD.below; clear hD; have HQ := Aside0.mk (HP.out.below hB); clear HP hB hc0 hc1 hc2 hc3 hc4 hc5; have HP := HQ; clear HQ; have hc0 := HP.out.cell 0 rfl; have hc1 := HP.out.cell 1 rfl; have hc2 := HP.out.cell 2 rfl; have hc3 := HP.out.cell 3 rfl; have hc4 := HP.out.cell 4 rfl; have hc5 := HP.out.cell 5 rfl)
                    | (go_at_call 18; refine (many_Right.calls 5 k a b _ _ (nums_many k a b)).mono ?_; rintro e w3 ⟨rfl, hD⟩; rw [HNu.out]; have hB := hD.below; clear hD; have HQ := Aside0.mk (HP.out.below hB); clear HP hB hc0 hc1 hc2 hc3 hc4 hc5; have HP := HQ; clear HQ; have hc0 := HP.out.cell 0 rfl; have hc1 := HP.out.cell 1 rfl; have hc2 := HP.out.cell 2 rfl; have hc3 := HP.out.cell 3 rfl; have hc4 := HP.out.cell 4 rfl; have hc5 := HP.out.cell 5 rfl)
                    | (go_at_call 19; refine (distinct_is _ A m c cs n HM.out (Kd.C_below HC.out HP.out.bel) hc (by omega) hn).mono ?_; rintro e w3 ⟨rfl, hB⟩; rw [HDs.out]; have HQ := Aside0.mk (HP.out.below hB); clear HP hB hc0 hc1 hc2 hc3 hc4 hc5; have HP := HQ; clear HQ; have hc0 := HP.out.cell 0 rfl; have hc1 := HP.out.cell 1 rfl; have hc2 := HP.out.cell 2 rfl; have hc3 := HP.out.cell 3 rfl; have hc4 := HP.out.cell 4 rfl; have hc5 := HP.out.cell 5 rfl))
                  go_ret
                  rw [show ruleOk n k cs a b true cost = true from by unfold ruleOk; simp [HM.out, HKp.out, HKm.out, HNu.out, HDs.out, show 2 ≤ m by omega, show m ≤ 12 by omega, HZ.out]]
                  exact ⟨rfl, HP.out.bel⟩
                · have hz1 : (cost == 0) = false := by simpa using hz
                  have hz2 : decide (cost = 0) = false := decide_eq_false hz
                  have HZ := Aside0.mk hz
                  clear hz
                  go_enter Try.func6, Try.ntmps6
                  go_wp2_with (first
                    | ((with_reducible refine gate_dst (N := 3) rfl ?_); refine box_event ?hg (N := 3) ?hd (cs := #[.int .i64 k, .slice A m c, .int .i64 a, .int .i64 b, .bool true, .int .i64 cost]) (t := 25) ?hr ?_; (case hd => rfl); (case hg => rfl); (case hr => first | (go_simp; done) | (go_simp; rfl)); intro g hg w2 hbox hB; have HP := Aside0.mk (PBox.mk hbox hB (show w.heap.size ≤ g by rw [hg]; exact Nat.le_refl _)); clear hbox hB hg; have hc0 := HP.out.cell 0 rfl; have hc1 := HP.out.cell 1 rfl; have hc2 := HP.out.cell 2 rfl; have hc3 := HP.out.cell 3 rfl; have hc4 := HP.out.cell 4 rfl; have hc5 := HP.out.cell 5 rfl)
                    | (go_at_call 16; refine (pair_Known.calls k _ _ (kp_pair k)).mono ?_; rintro e w3 ⟨rfl, hD⟩; rw [HKp.out]; have hB := hD.below; clear hD; have HQ := Aside0.mk (HP.out.below hB); clear HP hB hc0 hc1 hc2 hc3 hc4 hc5; have HP := HQ; clear HQ; have hc0 := HP.out.cell 0 rfl; have hc1 := HP.out.cell 1 rfl; have hc2 := HP.out.cell 2 rfl; have hc3 := HP.out.cell 3 rfl; have hc4 := HP.out.cell 4 rfl; have hc5 := HP.out.cell 5 rfl)
                    | (go_at_call 17; refine (many_Known.calls k _ _ (km_many k)).mono ?_; rintro e w3 ⟨rfl, hD⟩; rw [HKm.out]; have hB := hD.below; clear hD; have HQ := Aside0.mk (HP.out.below hB); clear HP hB hc0 hc1 hc2 hc3 hc4 hc5; have HP := HQ; clear HQ; have hc0 := HP.out.cell 0 rfl; have hc1 := HP.out.cell 1 rfl; have hc2 := HP.out.cell 2 rfl; have hc3 := HP.out.cell 3 rfl; have hc4 := HP.out.cell 4 rfl; have hc5 := HP.out.cell 5 rfl)
                    | (go_at_call 18; refine (many_Right.calls 5 k a b _ _ (nums_many k a b)).mono ?_; rintro e w3 ⟨rfl, hD⟩; rw [HNu.out]; have hB := hD.below; clear hD; have HQ := Aside0.mk (HP.out.below hB); clear HP hB hc0 hc1 hc2 hc3 hc4 hc5; have HP := HQ; clear HQ; have hc0 := HP.out.cell 0 rfl; have hc1 := HP.out.cell 1 rfl; have hc2 := HP.out.cell 2 rfl; have hc3 := HP.out.cell 3 rfl; have hc4 := HP.out.cell 4 rfl; have hc5 := HP.out.cell 5 rfl)
                    | (go_at_call 19; refine (distinct_is _ A m c cs n HM.out (Kd.C_below HC.out HP.out.bel) hc (by omega) hn).mono ?_; rintro e w3 ⟨rfl, hB⟩; rw [HDs.out]; have HQ := Aside0.mk (HP.out.below hB); clear HP hB hc0 hc1 hc2 hc3 hc4 hc5; have HP := HQ; clear HQ; have hc0 := HP.out.cell 0 rfl; have hc1 := HP.out.cell 1 rfl; have hc2 := HP.out.cell 2 rfl; have hc3 := HP.out.cell 3 rfl; have hc4 := HP.out.cell 4 rfl; have hc5 := HP.out.cell 5 rfl))
                  go_ret
                  rw [show ruleOk n k cs a b true cost = false from by unfold ruleOk; simp [HM.out, HKp.out, HKm.out, HNu.out, HDs.out, show 2 ≤ m by omega, show m ≤ 12 by omega, HZ.out]]
                  exact ⟨rfl, HP.out.bel⟩
              | false =>
                by_cases h1 : 1 ≤ cost
                · by_cases h2 : cost ≤ 1000
                  · have HCo := Aside0.mk (show (decide (0 ≤ cost) && decide (cost ≤ 1000)) = true by rw [Bool.and_eq_true]; exact ⟨decide_eq_true (by omega), decide_eq_true h2⟩)
                    have H1 := Aside0.mk h1
                    have H2 := Aside0.mk h2
                    go_enter Try.func6, Try.ntmps6
                    go_wp2_with (first
                      | ((with_reducible refine gate_dst (N := 3) rfl ?_); refine box_event ?hg (N := 3) ?hd (cs := #[.int .i64 k, .slice A m c, .int .i64 a, .int .i64 b, .bool false, .int .i64 cost]) (t := 25) ?hr ?_; (case hd => rfl); (case hg => rfl); (case hr => first | (go_simp; done) | (go_simp; rfl)); intro g hg w2 hbox hB; have HP := Aside0.mk (PBox.mk hbox hB (show w.heap.size ≤ g by rw [hg]; exact Nat.le_refl _)); clear hbox hB hg; have hc0 := HP.out.cell 0 rfl; have hc1 := HP.out.cell 1 rfl; have hc2 := HP.out.cell 2 rfl; have hc3 := HP.out.cell 3 rfl; have hc4 := HP.out.cell 4 rfl; have hc5 := HP.out.cell 5 rfl)
                      | (go_at_call 16; refine (pair_Known.calls k _ _ (kp_pair k)).mono ?_; rintro e w3 ⟨rfl, hD⟩; rw [HKp.out]; have hB := hD.below; clear hD; have HQ := Aside0.mk (HP.out.below hB); clear HP hB hc0 hc1 hc2 hc3 hc4 hc5; have HP := HQ; clear HQ; have hc0 := HP.out.cell 0 rfl; have hc1 := HP.out.cell 1 rfl; have hc2 := HP.out.cell 2 rfl; have hc3 := HP.out.cell 3 rfl; have hc4 := HP.out.cell 4 rfl; have hc5 := HP.out.cell 5 rfl)
                      | (go_at_call 17; refine (many_Known.calls k _ _ (km_many k)).mono ?_; rintro e w3 ⟨rfl, hD⟩; rw [HKm.out]; have hB := hD.below; clear hD; have HQ := Aside0.mk (HP.out.below hB); clear HP hB hc0 hc1 hc2 hc3 hc4 hc5; have HP := HQ; clear HQ; have hc0 := HP.out.cell 0 rfl; have hc1 := HP.out.cell 1 rfl; have hc2 := HP.out.cell 2 rfl; have hc3 := HP.out.cell 3 rfl; have hc4 := HP.out.cell 4 rfl; have hc5 := HP.out.cell 5 rfl)
                      | (go_at_call 18; refine (many_Right.calls 5 k a b _ _ (nums_many k a b)).mono ?_; rintro e w3 ⟨rfl, hD⟩; rw [HNu.out]; have hB := hD.below; clear hD; have HQ := Aside0.mk (HP.out.below hB); clear HP hB hc0 hc1 hc2 hc3 hc4 hc5; have HP := HQ; clear HQ; have hc0 := HP.out.cell 0 rfl; have hc1 := HP.out.cell 1 rfl; have hc2 := HP.out.cell 2 rfl; have hc3 := HP.out.cell 3 rfl; have hc4 := HP.out.cell 4 rfl; have hc5 := HP.out.cell 5 rfl)
                      | (go_at_call 19; refine (distinct_is _ A m c cs n HM.out (Kd.C_below HC.out HP.out.bel) hc (by omega) hn).mono ?_; rintro e w3 ⟨rfl, hB⟩; rw [HDs.out]; have HQ := Aside0.mk (HP.out.below hB); clear HP hB hc0 hc1 hc2 hc3 hc4 hc5; have HP := HQ; clear HQ; have hc0 := HP.out.cell 0 rfl; have hc1 := HP.out.cell 1 rfl; have hc2 := HP.out.cell 2 rfl; have hc3 := HP.out.cell 3 rfl; have hc4 := HP.out.cell 4 rfl; have hc5 := HP.out.cell 5 rfl)
                      | (go_at_call 20; refine (problem_cost.calls cost _ _ (cost_eq cost)).mono ?_; rintro e w3 ⟨rfl, hD⟩; rw [HCo.out]; have hB := hD.below; clear hD; have HQ := Aside0.mk (HP.out.below hB); clear HP hB hc0 hc1 hc2 hc3 hc4 hc5; have HP := HQ; clear HQ; have hc0 := HP.out.cell 0 rfl; have hc1 := HP.out.cell 1 rfl; have hc2 := HP.out.cell 2 rfl; have hc3 := HP.out.cell 3 rfl; have hc4 := HP.out.cell 4 rfl; have hc5 := HP.out.cell 5 rfl))
                    go_ret
                    rw [show ruleOk n k cs a b false cost = true from by unfold ruleOk; simp [HM.out, HKp.out, HKm.out, HNu.out, HDs.out, show 2 ≤ m by omega, show m ≤ 12 by omega, H1.out, H2.out]]
                    exact ⟨rfl, HP.out.bel⟩
                  · have HCo := Aside0.mk (show (decide (0 ≤ cost) && decide (cost ≤ 1000)) = false by rw [decide_eq_false h2, Bool.and_false])
                    have h2' : decide (cost ≤ 1000) = false := decide_eq_false h2
                    have H2 := Aside0.mk h2
                    go_enter Try.func6, Try.ntmps6
                    go_wp2_with (first
                      | ((with_reducible refine gate_dst (N := 3) rfl ?_); refine box_event ?hg (N := 3) ?hd (cs := #[.int .i64 k, .slice A m c, .int .i64 a, .int .i64 b, .bool false, .int .i64 cost]) (t := 25) ?hr ?_; (case hd => rfl); (case hg => rfl); (case hr => first | (go_simp; done) | (go_simp; rfl)); intro g hg w2 hbox hB; have HP := Aside0.mk (PBox.mk hbox hB (show w.heap.size ≤ g by rw [hg]; exact Nat.le_refl _)); clear hbox hB hg; have hc0 := HP.out.cell 0 rfl; have hc1 := HP.out.cell 1 rfl; have hc2 := HP.out.cell 2 rfl; have hc3 := HP.out.cell 3 rfl; have hc4 := HP.out.cell 4 rfl; have hc5 := HP.out.cell 5 rfl)
                      | (go_at_call 16; refine (pair_Known.calls k _ _ (kp_pair k)).mono ?_; rintro e w3 ⟨rfl, hD⟩; rw [HKp.out]; have hB := hD.below; clear hD; have HQ := Aside0.mk (HP.out.below hB); clear HP hB hc0 hc1 hc2 hc3 hc4 hc5; have HP := HQ; clear HQ; have hc0 := HP.out.cell 0 rfl; have hc1 := HP.out.cell 1 rfl; have hc2 := HP.out.cell 2 rfl; have hc3 := HP.out.cell 3 rfl; have hc4 := HP.out.cell 4 rfl; have hc5 := HP.out.cell 5 rfl)
                      | (go_at_call 17; refine (many_Known.calls k _ _ (km_many k)).mono ?_; rintro e w3 ⟨rfl, hD⟩; rw [HKm.out]; have hB := hD.below; clear hD; have HQ := Aside0.mk (HP.out.below hB); clear HP hB hc0 hc1 hc2 hc3 hc4 hc5; have HP := HQ; clear HQ; have hc0 := HP.out.cell 0 rfl; have hc1 := HP.out.cell 1 rfl; have hc2 := HP.out.cell 2 rfl; have hc3 := HP.out.cell 3 rfl; have hc4 := HP.out.cell 4 rfl; have hc5 := HP.out.cell 5 rfl)
                      | (go_at_call 18; refine (many_Right.calls 5 k a b _ _ (nums_many k a b)).mono ?_; rintro e w3 ⟨rfl, hD⟩; rw [HNu.out]; have hB := hD.below; clear hD; have HQ := Aside0.mk (HP.out.below hB); clear HP hB hc0 hc1 hc2 hc3 hc4 hc5; have HP := HQ; clear HQ; have hc0 := HP.out.cell 0 rfl; have hc1 := HP.out.cell 1 rfl; have hc2 := HP.out.cell 2 rfl; have hc3 := HP.out.cell 3 rfl; have hc4 := HP.out.cell 4 rfl; have hc5 := HP.out.cell 5 rfl)
                      | (go_at_call 19; refine (distinct_is _ A m c cs n HM.out (Kd.C_below HC.out HP.out.bel) hc (by omega) hn).mono ?_; rintro e w3 ⟨rfl, hB⟩; rw [HDs.out]; have HQ := Aside0.mk (HP.out.below hB); clear HP hB hc0 hc1 hc2 hc3 hc4 hc5; have HP := HQ; clear HQ; have hc0 := HP.out.cell 0 rfl; have hc1 := HP.out.cell 1 rfl; have hc2 := HP.out.cell 2 rfl; have hc3 := HP.out.cell 3 rfl; have hc4 := HP.out.cell 4 rfl; have hc5 := HP.out.cell 5 rfl)
                      | (go_at_call 20; refine (problem_cost.calls cost _ _ (cost_eq cost)).mono ?_; rintro e w3 ⟨rfl, hD⟩; rw [HCo.out]; have hB := hD.below; clear hD; have HQ := Aside0.mk (HP.out.below hB); clear HP hB hc0 hc1 hc2 hc3 hc4 hc5; have HP := HQ; clear HQ; have hc0 := HP.out.cell 0 rfl; have hc1 := HP.out.cell 1 rfl; have hc2 := HP.out.cell 2 rfl; have hc3 := HP.out.cell 3 rfl; have hc4 := HP.out.cell 4 rfl; have hc5 := HP.out.cell 5 rfl))
                    go_ret
                    rw [show ruleOk n k cs a b false cost = false from by unfold ruleOk; simp [HM.out, HKp.out, HKm.out, HNu.out, HDs.out, show 2 ≤ m by omega, show m ≤ 12 by omega, H2.out]]
                    exact ⟨rfl, HP.out.bel⟩
                · have h1' : decide (1 ≤ cost) = false := decide_eq_false h1
                  have H1 := Aside0.mk h1
                  go_enter Try.func6, Try.ntmps6
                  go_wp2_with (first
                    | ((with_reducible refine gate_dst (N := 3) rfl ?_); refine box_event ?hg (N := 3) ?hd (cs := #[.int .i64 k, .slice A m c, .int .i64 a, .int .i64 b, .bool false, .int .i64 cost]) (t := 25) ?hr ?_; (case hd => rfl); (case hg => rfl); (case hr => first | (go_simp; done) | (go_simp; rfl)); intro g hg w2 hbox hB; have HP := Aside0.mk (PBox.mk hbox hB (show w.heap.size ≤ g by rw [hg]; exact Nat.le_refl _)); clear hbox hB hg; have hc0 := HP.out.cell 0 rfl; have hc1 := HP.out.cell 1 rfl; have hc2 := HP.out.cell 2 rfl; have hc3 := HP.out.cell 3 rfl; have hc4 := HP.out.cell 4 rfl; have hc5 := HP.out.cell 5 rfl)
                    | (go_at_call 16; refine (pair_Known.calls k _ _ (kp_pair k)).mono ?_; rintro e w3 ⟨rfl, hD⟩; rw [HKp.out]; have hB := hD.below; clear hD; have HQ := Aside0.mk (HP.out.below hB); clear HP hB hc0 hc1 hc2 hc3 hc4 hc5; have HP := HQ; clear HQ; have hc0 := HP.out.cell 0 rfl; have hc1 := HP.out.cell 1 rfl; have hc2 := HP.out.cell 2 rfl; have hc3 := HP.out.cell 3 rfl; have hc4 := HP.out.cell 4 rfl; have hc5 := HP.out.cell 5 rfl)
                    | (go_at_call 17; refine (many_Known.calls k _ _ (km_many k)).mono ?_; rintro e w3 ⟨rfl, hD⟩; rw [HKm.out]; have hB := hD.below; clear hD; have HQ := Aside0.mk (HP.out.below hB); clear HP hB hc0 hc1 hc2 hc3 hc4 hc5; have HP := HQ; clear HQ; have hc0 := HP.out.cell 0 rfl; have hc1 := HP.out.cell 1 rfl; have hc2 := HP.out.cell 2 rfl; have hc3 := HP.out.cell 3 rfl; have hc4 := HP.out.cell 4 rfl; have hc5 := HP.out.cell 5 rfl)
                    | (go_at_call 18; refine (many_Right.calls 5 k a b _ _ (nums_many k a b)).mono ?_; rintro e w3 ⟨rfl, hD⟩; rw [HNu.out]; have hB := hD.below; clear hD; have HQ := Aside0.mk (HP.out.below hB); clear HP hB hc0 hc1 hc2 hc3 hc4 hc5; have HP := HQ; clear HQ; have hc0 := HP.out.cell 0 rfl; have hc1 := HP.out.cell 1 rfl; have hc2 := HP.out.cell 2 rfl; have hc3 := HP.out.cell 3 rfl; have hc4 := HP.out.cell 4 rfl; have hc5 := HP.out.cell 5 rfl)
                    | (go_at_call 19; refine (distinct_is _ A m c cs n HM.out (Kd.C_below HC.out HP.out.bel) hc (by omega) hn).mono ?_; rintro e w3 ⟨rfl, hB⟩; rw [HDs.out]; have HQ := Aside0.mk (HP.out.below hB); clear HP hB hc0 hc1 hc2 hc3 hc4 hc5; have HP := HQ; clear HQ; have hc0 := HP.out.cell 0 rfl; have hc1 := HP.out.cell 1 rfl; have hc2 := HP.out.cell 2 rfl; have hc3 := HP.out.cell 3 rfl; have hc4 := HP.out.cell 4 rfl; have hc5 := HP.out.cell 5 rfl)
                    | (go_at_call 20; refine (problem_cost.calls cost _ _ (cost_eq cost)).mono ?_; rintro e w3 ⟨rfl, hD⟩; rw [HCo.out]; have hB := hD.below; clear hD; have HQ := Aside0.mk (HP.out.below hB); clear HP hB hc0 hc1 hc2 hc3 hc4 hc5; have HP := HQ; clear HQ; have hc0 := HP.out.cell 0 rfl; have hc1 := HP.out.cell 1 rfl; have hc2 := HP.out.cell 2 rfl; have hc3 := HP.out.cell 3 rfl; have hc4 := HP.out.cell 4 rfl; have hc5 := HP.out.cell 5 rfl))
                  go_ret
                  rw [show ruleOk n k cs a b false cost = false from by unfold ruleOk; simp [HM.out, HKp.out, HKm.out, HNu.out, HDs.out, show 2 ≤ m by omega, show m ≤ 12 by omega, show ¬ 1 ≤ cost by have := H1.out; omega]]
                  exact ⟨rfl, HP.out.bel⟩
    | false =>
      have HKm := Aside0.mk hkm
      clear hkm
      go_enter Try.func6, Try.ntmps6
      go_wp2_with (first
        | ((with_reducible refine gate_dst (N := 3) rfl ?_); refine box_event ?hg (N := 3) ?hd (cs := #[.int .i64 k, .slice A m c, .int .i64 a, .int .i64 b, .bool hard, .int .i64 cost]) (t := 25) ?hr ?_; (case hd => rfl); (case hg => rfl); (case hr => first | (go_simp; done) | (go_simp; rfl)); intro g hg w2 hbox hB; have HP := Aside0.mk (PBox.mk hbox hB (show w.heap.size ≤ g by rw [hg]; exact Nat.le_refl _)); clear hbox hB hg; have hc0 := HP.out.cell 0 rfl; have hc1 := HP.out.cell 1 rfl; have hc2 := HP.out.cell 2 rfl; have hc3 := HP.out.cell 3 rfl; have hc4 := HP.out.cell 4 rfl; have hc5 := HP.out.cell 5 rfl)
        | (go_at_call 16; refine (pair_Known.calls k _ _ (kp_pair k)).mono ?_; rintro e w3 ⟨rfl, hD⟩; rw [HKp.out]; have hB := hD.below; clear hD; have HQ := Aside0.mk (HP.out.below hB); clear HP hB hc0 hc1 hc2 hc3 hc4 hc5; have HP := HQ; clear HQ; have hc0 := HP.out.cell 0 rfl; have hc1 := HP.out.cell 1 rfl; have hc2 := HP.out.cell 2 rfl; have hc3 := HP.out.cell 3 rfl; have hc4 := HP.out.cell 4 rfl; have hc5 := HP.out.cell 5 rfl)
        | (go_at_call 17; refine (many_Known.calls k _ _ (km_many k)).mono ?_; rintro e w3 ⟨rfl, hD⟩; rw [HKm.out]; have hB := hD.below; clear hD; have HQ := Aside0.mk (HP.out.below hB); clear HP hB hc0 hc1 hc2 hc3 hc4 hc5; have HP := HQ; clear HQ; have hc0 := HP.out.cell 0 rfl; have hc1 := HP.out.cell 1 rfl; have hc2 := HP.out.cell 2 rfl; have hc3 := HP.out.cell 3 rfl; have hc4 := HP.out.cell 4 rfl; have hc5 := HP.out.cell 5 rfl))
      go_ret
      rw [show ruleOk n k cs a b hard cost = false from by unfold ruleOk; simp [HM.out, HKp.out, HKm.out]]
      exact ⟨rfl, HP.out.bel⟩
end Go.Proofs.Ytineikfhfmiidaa.Pm

/- The document's Rule, walked. -/
namespace Go.Proofs.Ytineikfhfmiidaa.Pm
open Go Go.RowKit Go.Proofs.Ytineikfhfmiidaa.Gp Go.Proofs.Ytineikfhfmiidaa.Mw Go.Proofs.YtineikfhfmiidaaW.PrintWords Go.Proofs.YtineikfhfmiidaaW.PrintLast Go.Proofs.YtineikfhfmiidaaW.PrintMore
set_option linter.unusedVariables false
set_option linter.unusedSimpArgs false
set_option maxRecDepth 100000 in
set_option maxHeartbeats 2000000 in
theorem RRule_is (w : World) (n k : Int) (A : Option Addr) (m c : Nat) (cs : List Int) (a b : Int) (hard : Bool) (cost : Int) (hm : cs.length = m) (hC : (Kd.int .i64).C w A cs.length cs) (hc : m ≤ c) (hn : n ≤ 9223372036854775807) :
    Calls Try.prog 7 #[.int .i64 n, .agg #[.int .i64 k, .slice A m c, .int .i64 a, .int .i64 b, .bool hard, .int .i64 cost]] w fun e w' => e = .returned (.bool (ruleOk n k cs a b hard cost)) ∧ Below w.heap.size w w' := by
  have HC := Aside0.mk hC
  have HM := Aside0.mk hm
  clear hC hm
  cases hkp : kp k with
  | true =>
    have HKp := Aside0.mk hkp
    clear hkp
    by_cases hl : m < 2
    · have hl1 : (m : Int) < 2 := by omega
      go_enter Try.func7, Try.ntmps7
      go_wp2_with (first
        | ((with_reducible refine gate_dst (N := 3) rfl ?_); refine box_event ?hg (N := 3) ?hd (cs := #[.int .i64 k, .slice A m c, .int .i64 a, .int .i64 b, .bool hard, .int .i64 cost]) (t := 25) ?hr ?_; (case hd => rfl); (case hg => rfl); (case hr => first | (go_simp; done) | (go_simp; rfl)); intro g hg w2 hbox hB; have HP := Aside0.mk (PBox.mk hbox hB (show w.heap.size ≤ g by rw [hg]; exact Nat.le_refl _)); clear hbox hB hg; have hc0 := HP.out.cell 0 rfl; have hc1 := HP.out.cell 1 rfl; have hc2 := HP.out.cell 2 rfl; have hc3 := HP.out.cell 3 rfl; have hc4 := HP.out.cell 4 rfl; have hc5 := HP.out.cell 5 rfl)
        | (go_at_call 21; refine (horariumref15_Known.calls k _ _ (kp15 k)).mono ?_; rintro e w3 ⟨rfl, hD⟩; rw [HKp.out]; have hB := hD.below; clear hD; have HQ := Aside0.mk (HP.out.below hB); clear HP hB hc0 hc1 hc2 hc3 hc4 hc5; have HP := HQ; clear HQ; have hc0 := HP.out.cell 0 rfl; have hc1 := HP.out.cell 1 rfl; have hc2 := HP.out.cell 2 rfl; have hc3 := HP.out.cell 3 rfl; have hc4 := HP.out.cell 4 rfl; have hc5 := HP.out.cell 5 rfl)
        | (go_at_call 22; refine (horariumref16_Known.calls k _ _ (km16 k)).mono ?_; rintro e w3 ⟨rfl, hD⟩; rw [HKm.out]; have hB := hD.below; clear hD; have HQ := Aside0.mk (HP.out.below hB); clear HP hB hc0 hc1 hc2 hc3 hc4 hc5; have HP := HQ; clear HQ; have hc0 := HP.out.cell 0 rfl; have hc1 := HP.out.cell 1 rfl; have hc2 := HP.out.cell 2 rfl; have hc3 := HP.out.cell 3 rfl; have hc4 := HP.out.cell 4 rfl; have hc5 := HP.out.cell 5 rfl))
      go_ret
      rw [show ruleOk n k cs a b hard cost = false from by unfold ruleOk; simp [HM.out, HKp.out, show ¬ 2 ≤ m by omega]]
      exact ⟨rfl, HP.out.bel⟩
    · have hl1 : ¬ (m : Int) < 2 := by omega
      by_cases hg : 12 < m
      · have hg1 : (12 : Int) < (m : Int) := by omega
        go_enter Try.func7, Try.ntmps7
        go_wp2_with (first
          | ((with_reducible refine gate_dst (N := 3) rfl ?_); refine box_event ?hg (N := 3) ?hd (cs := #[.int .i64 k, .slice A m c, .int .i64 a, .int .i64 b, .bool hard, .int .i64 cost]) (t := 25) ?hr ?_; (case hd => rfl); (case hg => rfl); (case hr => first | (go_simp; done) | (go_simp; rfl)); intro g hg w2 hbox hB; have HP := Aside0.mk (PBox.mk hbox hB (show w.heap.size ≤ g by rw [hg]; exact Nat.le_refl _)); clear hbox hB hg; have hc0 := HP.out.cell 0 rfl; have hc1 := HP.out.cell 1 rfl; have hc2 := HP.out.cell 2 rfl; have hc3 := HP.out.cell 3 rfl; have hc4 := HP.out.cell 4 rfl; have hc5 := HP.out.cell 5 rfl)
          | (go_at_call 21; refine (horariumref15_Known.calls k _ _ (kp15 k)).mono ?_; rintro e w3 ⟨rfl, hD⟩; rw [HKp.out]; have hB := hD.below; clear hD; have HQ := Aside0.mk (HP.out.below hB); clear HP hB hc0 hc1 hc2 hc3 hc4 hc5; have HP := HQ; clear HQ; have hc0 := HP.out.cell 0 rfl; have hc1 := HP.out.cell 1 rfl; have hc2 := HP.out.cell 2 rfl; have hc3 := HP.out.cell 3 rfl; have hc4 := HP.out.cell 4 rfl; have hc5 := HP.out.cell 5 rfl)
          | (go_at_call 22; refine (horariumref16_Known.calls k _ _ (km16 k)).mono ?_; rintro e w3 ⟨rfl, hD⟩; rw [HKm.out]; have hB := hD.below; clear hD; have HQ := Aside0.mk (HP.out.below hB); clear HP hB hc0 hc1 hc2 hc3 hc4 hc5; have HP := HQ; clear HQ; have hc0 := HP.out.cell 0 rfl; have hc1 := HP.out.cell 1 rfl; have hc2 := HP.out.cell 2 rfl; have hc3 := HP.out.cell 3 rfl; have hc4 := HP.out.cell 4 rfl; have hc5 := HP.out.cell 5 rfl))
        go_ret
        rw [show ruleOk n k cs a b hard cost = false from by unfold ruleOk; simp [HM.out, HKp.out, show ¬ m ≤ 12 by omega]]
        exact ⟨rfl, HP.out.bel⟩
      · have hg1 : ¬ (12 : Int) < (m : Int) := by omega
        cases hnu : numsOk k a b with
        | false =>
          have HNu := Aside0.mk hnu
          clear hnu
          go_enter Try.func7, Try.ntmps7
          go_wp2_with (first
            | ((with_reducible refine gate_dst (N := 3) rfl ?_); refine box_event ?hg (N := 3) ?hd (cs := #[.int .i64 k, .slice A m c, .int .i64 a, .int .i64 b, .bool hard, .int .i64 cost]) (t := 25) ?hr ?_; (case hd => rfl); (case hg => rfl); (case hr => first | (go_simp; done) | (go_simp; rfl)); intro g hg w2 hbox hB; have HP := Aside0.mk (PBox.mk hbox hB (show w.heap.size ≤ g by rw [hg]; exact Nat.le_refl _)); clear hbox hB hg; have hc0 := HP.out.cell 0 rfl; have hc1 := HP.out.cell 1 rfl; have hc2 := HP.out.cell 2 rfl; have hc3 := HP.out.cell 3 rfl; have hc4 := HP.out.cell 4 rfl; have hc5 := HP.out.cell 5 rfl)
            | (go_at_call 21; refine (horariumref15_Known.calls k _ _ (kp15 k)).mono ?_; rintro e w3 ⟨rfl, hD⟩; rw [HKp.out]; have hB := hD.below; clear hD; have HQ := Aside0.mk (HP.out.below hB); clear HP hB hc0 hc1 hc2 hc3 hc4 hc5; have HP := HQ; clear HQ; have hc0 := HP.out.cell 0 rfl; have hc1 := HP.out.cell 1 rfl; have hc2 := HP.out.cell 2 rfl; have hc3 := HP.out.cell 3 rfl; have hc4 := HP.out.cell 4 rfl; have hc5 := HP.out.cell 5 rfl)
            | (go_at_call 22; refine (horariumref16_Known.calls k _ _ (km16 k)).mono ?_; rintro e w3 ⟨rfl, hD⟩; rw [HKm.out]; have hB := hD.below; clear hD; have HQ := Aside0.mk (HP.out.below hB); clear HP hB hc0 hc1 hc2 hc3 hc4 hc5; have HP := HQ; clear HQ; have hc0 := HP.out.cell 0 rfl; have hc1 := HP.out.cell 1 rfl; have hc2 := HP.out.cell 2 rfl; have hc3 := HP.out.cell 3 rfl; have hc4 := HP.out.cell 4 rfl; have hc5 := HP.out.cell 5 rfl)
            | (go_at_call 23; refine (horariumref16_Right.calls 5 k a b _ _ (nums16 k a b)).mono ?_; rintro e w3 ⟨rfl, hD⟩; rw [HNu.out]; have hB := hD.below; clear hD; have HQ := Aside0.mk (HP.out.below hB); clear HP hB hc0 hc1 hc2 hc3 hc4 hc5; have HP := HQ; clear HQ; have hc0 := HP.out.cell 0 rfl; have hc1 := HP.out.cell 1 rfl; have hc2 := HP.out.cell 2 rfl; have hc3 := HP.out.cell 3 rfl; have hc4 := HP.out.cell 4 rfl; have hc5 := HP.out.cell 5 rfl))
          go_ret
          rw [show ruleOk n k cs a b hard cost = false from by unfold ruleOk; simp [HM.out, HKp.out, HNu.out]]
          exact ⟨rfl, HP.out.bel⟩
        | true =>
          have HNu := Aside0.mk hnu
          clear hnu
          go_enter Try.func7, Try.ntmps7
          go_wp2_with (first
            | ((with_reducible refine gate_dst (N := 3) rfl ?_); refine box_event ?hg (N := 3) ?hd (cs := #[.int .i64 k, .slice A m c, .int .i64 a, .int .i64 b, .bool hard, .int .i64 cost]) (t := 25) ?hr ?_; (case hd => rfl); (case hg => rfl); (case hr => first | (go_simp; done) | (go_simp; rfl)); intro g hg w2 hbox hB; have HP := Aside0.mk (PBox.mk hbox hB (show w.heap.size ≤ g by rw [hg]; exact Nat.le_refl _)); clear hbox hB hg; have hc0 := HP.out.cell 0 rfl; have hc1 := HP.out.cell 1 rfl; have hc2 := HP.out.cell 2 rfl; have hc3 := HP.out.cell 3 rfl; have hc4 := HP.out.cell 4 rfl; have hc5 := HP.out.cell 5 rfl)
            | (go_at_call 21; refine (horariumref15_Known.calls k _ _ (kp15 k)).mono ?_; rintro e w3 ⟨rfl, hD⟩; rw [HKp.out]; have hB := hD.below; clear hD; have HQ := Aside0.mk (HP.out.below hB); clear HP hB hc0 hc1 hc2 hc3 hc4 hc5; have HP := HQ; clear HQ; have hc0 := HP.out.cell 0 rfl; have hc1 := HP.out.cell 1 rfl; have hc2 := HP.out.cell 2 rfl; have hc3 := HP.out.cell 3 rfl; have hc4 := HP.out.cell 4 rfl; have hc5 := HP.out.cell 5 rfl)
            | (go_at_call 22; refine (horariumref16_Known.calls k _ _ (km16 k)).mono ?_; rintro e w3 ⟨rfl, hD⟩; rw [HKm.out]; have hB := hD.below; clear hD; have HQ := Aside0.mk (HP.out.below hB); clear HP hB hc0 hc1 hc2 hc3 hc4 hc5; have HP := HQ; clear HQ; have hc0 := HP.out.cell 0 rfl; have hc1 := HP.out.cell 1 rfl; have hc2 := HP.out.cell 2 rfl; have hc3 := HP.out.cell 3 rfl; have hc4 := HP.out.cell 4 rfl; have hc5 := HP.out.cell 5 rfl)
            | (go_at_call 23; refine (horariumref16_Right.calls 5 k a b _ _ (nums16 k a b)).mono ?_; rintro e w3 ⟨rfl, hD⟩; rw [HNu.out]; have hB := hD.below; clear hD; have HQ := Aside0.mk (HP.out.below hB); clear HP hB hc0 hc1 hc2 hc3 hc4 hc5; have HP := HQ; clear HQ; have hc0 := HP.out.cell 0 rfl; have hc1 := HP.out.cell 1 rfl; have hc2 := HP.out.cell 2 rfl; have hc3 := HP.out.cell 3 rfl; have hc4 := HP.out.cell 4 rfl; have hc5 := HP.out.cell 5 rfl))
          go_loopw [5] (fun v5 wr => ∃ i : Nat, i ≤ m ∧ v5 = .int .i64 i ∧ Aside0 (DstTo n cs i) ∧ Aside0 (PBox w wr g 25 #[.int .i64 k, .slice A m c, .int .i64 a, .int .i64 b, .bool hard, .int .i64 cost])) (fun v5 _ => m - (intOf v5).toNat)
          case atStart => exact ⟨0, Nat.zero_le _, rfl, ⟨DstTo.start _ _⟩, HP⟩
          case round =>
            clear HP hc0 hc1 hc2 hc3 hc4 hc5
            obtain ⟨i, hi, rfl, HD, HP⟩ := hrel
            have hc0 := HP.out.cell 0 rfl; have hc1 := HP.out.cell 1 rfl; have hc2 := HP.out.cell 2 rfl; have hc3 := HP.out.cell 3 rfl; have hc4 := HP.out.cell 4 rfl; have hc5 := HP.out.cell 5 rfl
            by_cases him : i < m
            · have hic : i < cs.length := by have := HM.out; omega
              obtain ⟨x, hx⟩ : ∃ x, x = cs.getD i 0 := ⟨_, rfl⟩
              obtain ⟨ad, rfl, hcell⟩ := int_cell (Kd.C_below HC.out HP.out.bel) hic hx
              have him2 : (i : Int) < (m : Int) := by omega
              have HX := Aside0.mk (And.intro hx hic)
              clear hx hic
              by_cases h0 : x < 0
              · have HR := Aside0.mk (dst_bad (n := n) HX.out.2 (Or.inl (by rw [← HX.out.1]; exact h0)))
                have h0' : decide (x < 0) = true := decide_eq_true h0
                go_wp2
                go_quiet (fail)
                go_wp2
                go_ret
                rw [show ruleOk n k cs a b hard cost = false from by unfold ruleOk; simp [HM.out, HR.out]]
                exact ⟨rfl, pw_below_drewN HP.out.bel nq⟩
              · have h0' : decide (x < 0) = false := decide_eq_false h0
                by_cases h1 : n ≤ x
                · have HR := Aside0.mk (dst_bad (n := n) HX.out.2 (Or.inr (Or.inl (by rw [← HX.out.1]; exact h1))))
                  have h1' : decide (n ≤ x) = true := decide_eq_true h1
                  go_wp2
                  go_quiet (fail)
                  go_wp2
                  go_ret
                  rw [show ruleOk n k cs a b hard cost = false from by unfold ruleOk; simp [HM.out, HR.out]]
                  exact ⟨rfl, pw_below_drewN HP.out.bel nq⟩
                · have h1' : decide (n ≤ x) = false := decide_eq_false h1
                  have hcut := cutT (some ad) m c i hi hc
                  have HT := Aside0.mk (show (cs.take i).length = i by rw [List.length_take]; have := HM.out; omega)
                  have HTC := Aside0.mk (show (Kd.int .i64).C wr (some ad) (cs.take i).length (cs.take i) from by exact Kd.C_take (m := i) (Kd.C_below HC.out HP.out.bel) (by have := HM.out; omega))
                  by_cases h2 : x ∈ cs.take i
                  · have HR := Aside0.mk (dst_bad (n := n) HX.out.2 (Or.inr (Or.inr (by rw [← HX.out.1]; exact h2))))
                    have HH := Aside0.mk (show (cs.take i).contains x = true by rw [List.contains_eq_mem]; exact decide_eq_true h2)
                    clear h2
                    go_wp2
                    go_quiet (first | (go_at_call 24; exact Calls.quiet_of (HasL_q _ (some ad) i c (cs.take i) x true HT.out HTC.out (by omega) HH.out _)))
                    go_wp2
                    go_ret
                    rw [show ruleOk n k cs a b hard cost = false from by unfold ruleOk; simp [HM.out, HR.out]]
                    exact ⟨rfl, pw_below_drewN HP.out.bel nq⟩
                  · have HH := Aside0.mk (show (cs.take i).contains x = false by rw [List.contains_eq_mem]; exact decide_eq_false h2)
                    have HD2 := Aside0.mk (HD.out.step HX.out.2 (by rw [← HX.out.1]; omega) (by rw [← HX.out.1]; omega) (by rw [← HX.out.1]; exact h2))
                    clear h2
                    go_wp2
                    go_quiet (first | (go_at_call 24; exact Calls.quiet_of (HasL_q _ (some ad) i c (cs.take i) x false HT.out HTC.out (by omega) HH.out _)))
                    go_wp2
                    exact ⟨⟨i + 1, by omega, by go_num, HD2, ⟨HP.out.below (pw_below_drewN (Below.refl _ _) nq)⟩⟩, by simp [intOf]; omega⟩
            · obtain rfl : i = m := by omega
              have HR := Aside0.mk (show dstB n cs = true from DstTo.over (by rw [HM.out]; exact HD.out))
              cases hard with
              | true =>
                by_cases hz : cost = 0
                · have hz1 : (cost == 0) = true := by simpa using hz
                  have HZ := Aside0.mk hz
                  clear hz
                  go_wp2
                  go_ret
                  rw [show ruleOk n k cs a b true cost = true from by unfold ruleOk; simp [HM.out, HKp.out, HNu.out, HR.out, show 2 ≤ i by omega, show i ≤ 12 by omega, HZ.out]]
                  exact ⟨rfl, HP.out.bel⟩
                · have hz1 : (cost == 0) = false := by simpa using hz
                  have hz2 : decide (cost = 0) = false := decide_eq_false hz
                  have HZ := Aside0.mk hz
                  clear hz
                  go_wp2
                  go_ret
                  rw [show ruleOk n k cs a b true cost = false from by unfold ruleOk; simp [HM.out, HKp.out, HNu.out, HR.out, show 2 ≤ i by omega, show i ≤ 12 by omega, HZ.out]]
                  exact ⟨rfl, HP.out.bel⟩
              | false =>
                by_cases h1 : 1 ≤ cost
                · by_cases h2 : cost ≤ 1000
                  · have HCo := Aside0.mk (show (decide (0 ≤ cost) && decide (cost ≤ 1000)) = true by rw [Bool.and_eq_true]; exact ⟨decide_eq_true (by omega), decide_eq_true h2⟩)
                    have H1 := Aside0.mk h1
                    have H2 := Aside0.mk h2
                    go_wp2
                    go_ret
                    rw [show ruleOk n k cs a b false cost = true from by unfold ruleOk; simp [HM.out, HKp.out, HNu.out, HR.out, show 2 ≤ i by omega, show i ≤ 12 by omega, H1.out, H2.out]]
                    exact ⟨rfl, HP.out.bel⟩
                  · have HCo := Aside0.mk (show (decide (0 ≤ cost) && decide (cost ≤ 1000)) = false by rw [decide_eq_false h2, Bool.and_false])
                    have h2' : decide (cost ≤ 1000) = false := decide_eq_false h2
                    have H2 := Aside0.mk h2
                    go_wp2
                    go_ret
                    rw [show ruleOk n k cs a b false cost = false from by unfold ruleOk; simp [HM.out, HKp.out, HNu.out, HR.out, show 2 ≤ i by omega, show i ≤ 12 by omega, H2.out]]
                    exact ⟨rfl, HP.out.bel⟩
                · have h1' : decide (1 ≤ cost) = false := decide_eq_false h1
                  have H1 := Aside0.mk h1
                  go_wp2
                  go_ret
                  rw [show ruleOk n k cs a b false cost = false from by unfold ruleOk; simp [HM.out, HKp.out, HNu.out, HR.out, show 2 ≤ i by omega, show i ≤ 12 by omega, show ¬ 1 ≤ cost by have := H1.out; omega]]
                  exact ⟨rfl, HP.out.bel⟩
  | false =>
    have HKp := Aside0.mk hkp
    clear hkp
    cases hkm : km k with
    | true =>
      have HKm := Aside0.mk hkm
      clear hkm
      by_cases hl : m < 2
      · have hl1 : (m : Int) < 2 := by omega
        go_enter Try.func7, Try.ntmps7
        go_wp2_with (first
          | ((with_reducible refine gate_dst (N := 3) rfl ?_); refine box_event ?hg (N := 3) ?hd (cs := #[.int .i64 k, .slice A m c, .int .i64 a, .int .i64 b, .bool hard, .int .i64 cost]) (t := 25) ?hr ?_; (case hd => rfl); (case hg => rfl); (case hr => first | (go_simp; done) | (go_simp; rfl)); intro g hg w2 hbox hB; have HP := Aside0.mk (PBox.mk hbox hB (show w.heap.size ≤ g by rw [hg]; exact Nat.le_refl _)); clear hbox hB hg; have hc0 := HP.out.cell 0 rfl; have hc1 := HP.out.cell 1 rfl; have hc2 := HP.out.cell 2 rfl; have hc3 := HP.out.cell 3 rfl; have hc4 := HP.out.cell 4 rfl; have hc5 := HP.out.cell 5 rfl)
          | (go_at_call 21; refine (horariumref15_Known.calls k _ _ (kp15 k)).mono ?_; rintro e w3 ⟨rfl, hD⟩; rw [HKp.out]; have hB := hD.below; clear hD; have HQ := Aside0.mk (HP.out.below hB); clear HP hB hc0 hc1 hc2 hc3 hc4 hc5; have HP := HQ; clear HQ; have hc0 := HP.out.cell 0 rfl; have hc1 := HP.out.cell 1 rfl; have hc2 := HP.out.cell 2 rfl; have hc3 := HP.out.cell 3 rfl; have hc4 := HP.out.cell 4 rfl; have hc5 := HP.out.cell 5 rfl)
          | (go_at_call 22; refine (horariumref16_Known.calls k _ _ (km16 k)).mono ?_; rintro e w3 ⟨rfl, hD⟩; rw [HKm.out]; have hB := hD.below; clear hD; have HQ := Aside0.mk (HP.out.below hB); clear HP hB hc0 hc1 hc2 hc3 hc4 hc5; have HP := HQ; clear HQ; have hc0 := HP.out.cell 0 rfl; have hc1 := HP.out.cell 1 rfl; have hc2 := HP.out.cell 2 rfl; have hc3 := HP.out.cell 3 rfl; have hc4 := HP.out.cell 4 rfl; have hc5 := HP.out.cell 5 rfl))
        go_ret
        rw [show ruleOk n k cs a b hard cost = false from by unfold ruleOk; simp [HM.out, HKp.out, HKm.out, show ¬ 2 ≤ m by omega]]
        exact ⟨rfl, HP.out.bel⟩
      · have hl1 : ¬ (m : Int) < 2 := by omega
        by_cases hg : 12 < m
        · have hg1 : (12 : Int) < (m : Int) := by omega
          go_enter Try.func7, Try.ntmps7
          go_wp2_with (first
            | ((with_reducible refine gate_dst (N := 3) rfl ?_); refine box_event ?hg (N := 3) ?hd (cs := #[.int .i64 k, .slice A m c, .int .i64 a, .int .i64 b, .bool hard, .int .i64 cost]) (t := 25) ?hr ?_; (case hd => rfl); (case hg => rfl); (case hr => first | (go_simp; done) | (go_simp; rfl)); intro g hg w2 hbox hB; have HP := Aside0.mk (PBox.mk hbox hB (show w.heap.size ≤ g by rw [hg]; exact Nat.le_refl _)); clear hbox hB hg; have hc0 := HP.out.cell 0 rfl; have hc1 := HP.out.cell 1 rfl; have hc2 := HP.out.cell 2 rfl; have hc3 := HP.out.cell 3 rfl; have hc4 := HP.out.cell 4 rfl; have hc5 := HP.out.cell 5 rfl)
            | (go_at_call 21; refine (horariumref15_Known.calls k _ _ (kp15 k)).mono ?_; rintro e w3 ⟨rfl, hD⟩; rw [HKp.out]; have hB := hD.below; clear hD; have HQ := Aside0.mk (HP.out.below hB); clear HP hB hc0 hc1 hc2 hc3 hc4 hc5; have HP := HQ; clear HQ; have hc0 := HP.out.cell 0 rfl; have hc1 := HP.out.cell 1 rfl; have hc2 := HP.out.cell 2 rfl; have hc3 := HP.out.cell 3 rfl; have hc4 := HP.out.cell 4 rfl; have hc5 := HP.out.cell 5 rfl)
            | (go_at_call 22; refine (horariumref16_Known.calls k _ _ (km16 k)).mono ?_; rintro e w3 ⟨rfl, hD⟩; rw [HKm.out]; have hB := hD.below; clear hD; have HQ := Aside0.mk (HP.out.below hB); clear HP hB hc0 hc1 hc2 hc3 hc4 hc5; have HP := HQ; clear HQ; have hc0 := HP.out.cell 0 rfl; have hc1 := HP.out.cell 1 rfl; have hc2 := HP.out.cell 2 rfl; have hc3 := HP.out.cell 3 rfl; have hc4 := HP.out.cell 4 rfl; have hc5 := HP.out.cell 5 rfl))
          go_ret
          rw [show ruleOk n k cs a b hard cost = false from by unfold ruleOk; simp [HM.out, HKp.out, HKm.out, show ¬ m ≤ 12 by omega]]
          exact ⟨rfl, HP.out.bel⟩
        · have hg1 : ¬ (12 : Int) < (m : Int) := by omega
          cases hnu : numsOk k a b with
          | false =>
            have HNu := Aside0.mk hnu
            clear hnu
            go_enter Try.func7, Try.ntmps7
            go_wp2_with (first
              | ((with_reducible refine gate_dst (N := 3) rfl ?_); refine box_event ?hg (N := 3) ?hd (cs := #[.int .i64 k, .slice A m c, .int .i64 a, .int .i64 b, .bool hard, .int .i64 cost]) (t := 25) ?hr ?_; (case hd => rfl); (case hg => rfl); (case hr => first | (go_simp; done) | (go_simp; rfl)); intro g hg w2 hbox hB; have HP := Aside0.mk (PBox.mk hbox hB (show w.heap.size ≤ g by rw [hg]; exact Nat.le_refl _)); clear hbox hB hg; have hc0 := HP.out.cell 0 rfl; have hc1 := HP.out.cell 1 rfl; have hc2 := HP.out.cell 2 rfl; have hc3 := HP.out.cell 3 rfl; have hc4 := HP.out.cell 4 rfl; have hc5 := HP.out.cell 5 rfl)
              | (go_at_call 21; refine (horariumref15_Known.calls k _ _ (kp15 k)).mono ?_; rintro e w3 ⟨rfl, hD⟩; rw [HKp.out]; have hB := hD.below; clear hD; have HQ := Aside0.mk (HP.out.below hB); clear HP hB hc0 hc1 hc2 hc3 hc4 hc5; have HP := HQ; clear HQ; have hc0 := HP.out.cell 0 rfl; have hc1 := HP.out.cell 1 rfl; have hc2 := HP.out.cell 2 rfl; have hc3 := HP.out.cell 3 rfl; have hc4 := HP.out.cell 4 rfl; have hc5 := HP.out.cell 5 rfl)
              | (go_at_call 22; refine (horariumref16_Known.calls k _ _ (km16 k)).mono ?_; rintro e w3 ⟨rfl, hD⟩; rw [HKm.out]; have hB := hD.below; clear hD; have HQ := Aside0.mk (HP.out.below hB); clear HP hB hc0 hc1 hc2 hc3 hc4 hc5; have HP := HQ; clear HQ; have hc0 := HP.out.cell 0 rfl; have hc1 := HP.out.cell 1 rfl; have hc2 := HP.out.cell 2 rfl; have hc3 := HP.out.cell 3 rfl; have hc4 := HP.out.cell 4 rfl; have hc5 := HP.out.cell 5 rfl)
              | (go_at_call 23; refine (horariumref16_Right.calls 5 k a b _ _ (nums16 k a b)).mono ?_; rintro e w3 ⟨rfl, hD⟩; rw [HNu.out]; have hB := hD.below; clear hD; have HQ := Aside0.mk (HP.out.below hB); clear HP hB hc0 hc1 hc2 hc3 hc4 hc5; have HP := HQ; clear HQ; have hc0 := HP.out.cell 0 rfl; have hc1 := HP.out.cell 1 rfl; have hc2 := HP.out.cell 2 rfl; have hc3 := HP.out.cell 3 rfl; have hc4 := HP.out.cell 4 rfl; have hc5 := HP.out.cell 5 rfl))
            go_ret
            rw [show ruleOk n k cs a b hard cost = false from by unfold ruleOk; simp [HM.out, HKp.out, HKm.out, HNu.out]]
            exact ⟨rfl, HP.out.bel⟩
          | true =>
            have HNu := Aside0.mk hnu
            clear hnu
            go_enter Try.func7, Try.ntmps7
            go_wp2_with (first
              | ((with_reducible refine gate_dst (N := 3) rfl ?_); refine box_event ?hg (N := 3) ?hd (cs := #[.int .i64 k, .slice A m c, .int .i64 a, .int .i64 b, .bool hard, .int .i64 cost]) (t := 25) ?hr ?_; (case hd => rfl); (case hg => rfl); (case hr => first | (go_simp; done) | (go_simp; rfl)); intro g hg w2 hbox hB; have HP := Aside0.mk (PBox.mk hbox hB (show w.heap.size ≤ g by rw [hg]; exact Nat.le_refl _)); clear hbox hB hg; have hc0 := HP.out.cell 0 rfl; have hc1 := HP.out.cell 1 rfl; have hc2 := HP.out.cell 2 rfl; have hc3 := HP.out.cell 3 rfl; have hc4 := HP.out.cell 4 rfl; have hc5 := HP.out.cell 5 rfl)
              | (go_at_call 21; refine (horariumref15_Known.calls k _ _ (kp15 k)).mono ?_; rintro e w3 ⟨rfl, hD⟩; rw [HKp.out]; have hB := hD.below; clear hD; have HQ := Aside0.mk (HP.out.below hB); clear HP hB hc0 hc1 hc2 hc3 hc4 hc5; have HP := HQ; clear HQ; have hc0 := HP.out.cell 0 rfl; have hc1 := HP.out.cell 1 rfl; have hc2 := HP.out.cell 2 rfl; have hc3 := HP.out.cell 3 rfl; have hc4 := HP.out.cell 4 rfl; have hc5 := HP.out.cell 5 rfl)
              | (go_at_call 22; refine (horariumref16_Known.calls k _ _ (km16 k)).mono ?_; rintro e w3 ⟨rfl, hD⟩; rw [HKm.out]; have hB := hD.below; clear hD; have HQ := Aside0.mk (HP.out.below hB); clear HP hB hc0 hc1 hc2 hc3 hc4 hc5; have HP := HQ; clear HQ; have hc0 := HP.out.cell 0 rfl; have hc1 := HP.out.cell 1 rfl; have hc2 := HP.out.cell 2 rfl; have hc3 := HP.out.cell 3 rfl; have hc4 := HP.out.cell 4 rfl; have hc5 := HP.out.cell 5 rfl)
              | (go_at_call 23; refine (horariumref16_Right.calls 5 k a b _ _ (nums16 k a b)).mono ?_; rintro e w3 ⟨rfl, hD⟩; rw [HNu.out]; have hB := hD.below; clear hD; have HQ := Aside0.mk (HP.out.below hB); clear HP hB hc0 hc1 hc2 hc3 hc4 hc5; have HP := HQ; clear HQ; have hc0 := HP.out.cell 0 rfl; have hc1 := HP.out.cell 1 rfl; have hc2 := HP.out.cell 2 rfl; have hc3 := HP.out.cell 3 rfl; have hc4 := HP.out.cell 4 rfl; have hc5 := HP.out.cell 5 rfl))
            go_loopw [5] (fun v5 wr => ∃ i : Nat, i ≤ m ∧ v5 = .int .i64 i ∧ Aside0 (DstTo n cs i) ∧ Aside0 (PBox w wr g 25 #[.int .i64 k, .slice A m c, .int .i64 a, .int .i64 b, .bool hard, .int .i64 cost])) (fun v5 _ => m - (intOf v5).toNat)
            case atStart => exact ⟨0, Nat.zero_le _, rfl, ⟨DstTo.start _ _⟩, HP⟩
            case round =>
              clear HP hc0 hc1 hc2 hc3 hc4 hc5
              obtain ⟨i, hi, rfl, HD, HP⟩ := hrel
              have hc0 := HP.out.cell 0 rfl; have hc1 := HP.out.cell 1 rfl; have hc2 := HP.out.cell 2 rfl; have hc3 := HP.out.cell 3 rfl; have hc4 := HP.out.cell 4 rfl; have hc5 := HP.out.cell 5 rfl
              by_cases him : i < m
              · have hic : i < cs.length := by have := HM.out; omega
                obtain ⟨x, hx⟩ : ∃ x, x = cs.getD i 0 := ⟨_, rfl⟩
                obtain ⟨ad, rfl, hcell⟩ := int_cell (Kd.C_below HC.out HP.out.bel) hic hx
                have him2 : (i : Int) < (m : Int) := by omega
                have HX := Aside0.mk (And.intro hx hic)
                clear hx hic
                by_cases h0 : x < 0
                · have HR := Aside0.mk (dst_bad (n := n) HX.out.2 (Or.inl (by rw [← HX.out.1]; exact h0)))
                  have h0' : decide (x < 0) = true := decide_eq_true h0
                  go_wp2
                  go_quiet (fail)
                  go_wp2
                  go_ret
                  rw [show ruleOk n k cs a b hard cost = false from by unfold ruleOk; simp [HM.out, HR.out]]
                  exact ⟨rfl, pw_below_drewN HP.out.bel nq⟩
                · have h0' : decide (x < 0) = false := decide_eq_false h0
                  by_cases h1 : n ≤ x
                  · have HR := Aside0.mk (dst_bad (n := n) HX.out.2 (Or.inr (Or.inl (by rw [← HX.out.1]; exact h1))))
                    have h1' : decide (n ≤ x) = true := decide_eq_true h1
                    go_wp2
                    go_quiet (fail)
                    go_wp2
                    go_ret
                    rw [show ruleOk n k cs a b hard cost = false from by unfold ruleOk; simp [HM.out, HR.out]]
                    exact ⟨rfl, pw_below_drewN HP.out.bel nq⟩
                  · have h1' : decide (n ≤ x) = false := decide_eq_false h1
                    have hcut := cutT (some ad) m c i hi hc
                    have HT := Aside0.mk (show (cs.take i).length = i by rw [List.length_take]; have := HM.out; omega)
                    have HTC := Aside0.mk (show (Kd.int .i64).C wr (some ad) (cs.take i).length (cs.take i) from by exact Kd.C_take (m := i) (Kd.C_below HC.out HP.out.bel) (by have := HM.out; omega))
                    by_cases h2 : x ∈ cs.take i
                    · have HR := Aside0.mk (dst_bad (n := n) HX.out.2 (Or.inr (Or.inr (by rw [← HX.out.1]; exact h2))))
                      have HH := Aside0.mk (show (cs.take i).contains x = true by rw [List.contains_eq_mem]; exact decide_eq_true h2)
                      clear h2
                      go_wp2
                      go_quiet (first | (go_at_call 24; exact Calls.quiet_of (HasL_q _ (some ad) i c (cs.take i) x true HT.out HTC.out (by omega) HH.out _)))
                      go_wp2
                      go_ret
                      rw [show ruleOk n k cs a b hard cost = false from by unfold ruleOk; simp [HM.out, HR.out]]
                      exact ⟨rfl, pw_below_drewN HP.out.bel nq⟩
                    · have HH := Aside0.mk (show (cs.take i).contains x = false by rw [List.contains_eq_mem]; exact decide_eq_false h2)
                      have HD2 := Aside0.mk (HD.out.step HX.out.2 (by rw [← HX.out.1]; omega) (by rw [← HX.out.1]; omega) (by rw [← HX.out.1]; exact h2))
                      clear h2
                      go_wp2
                      go_quiet (first | (go_at_call 24; exact Calls.quiet_of (HasL_q _ (some ad) i c (cs.take i) x false HT.out HTC.out (by omega) HH.out _)))
                      go_wp2
                      exact ⟨⟨i + 1, by omega, by go_num, HD2, ⟨HP.out.below (pw_below_drewN (Below.refl _ _) nq)⟩⟩, by simp [intOf]; omega⟩
              · obtain rfl : i = m := by omega
                have HR := Aside0.mk (show dstB n cs = true from DstTo.over (by rw [HM.out]; exact HD.out))
                cases hard with
                | true =>
                  by_cases hz : cost = 0
                  · have hz1 : (cost == 0) = true := by simpa using hz
                    have HZ := Aside0.mk hz
                    clear hz
                    go_wp2
                    go_ret
                    rw [show ruleOk n k cs a b true cost = true from by unfold ruleOk; simp [HM.out, HKp.out, HKm.out, HNu.out, HR.out, show 2 ≤ i by omega, show i ≤ 12 by omega, HZ.out]]
                    exact ⟨rfl, HP.out.bel⟩
                  · have hz1 : (cost == 0) = false := by simpa using hz
                    have hz2 : decide (cost = 0) = false := decide_eq_false hz
                    have HZ := Aside0.mk hz
                    clear hz
                    go_wp2
                    go_ret
                    rw [show ruleOk n k cs a b true cost = false from by unfold ruleOk; simp [HM.out, HKp.out, HKm.out, HNu.out, HR.out, show 2 ≤ i by omega, show i ≤ 12 by omega, HZ.out]]
                    exact ⟨rfl, HP.out.bel⟩
                | false =>
                  by_cases h1 : 1 ≤ cost
                  · by_cases h2 : cost ≤ 1000
                    · have HCo := Aside0.mk (show (decide (0 ≤ cost) && decide (cost ≤ 1000)) = true by rw [Bool.and_eq_true]; exact ⟨decide_eq_true (by omega), decide_eq_true h2⟩)
                      have H1 := Aside0.mk h1
                      have H2 := Aside0.mk h2
                      go_wp2
                      go_ret
                      rw [show ruleOk n k cs a b false cost = true from by unfold ruleOk; simp [HM.out, HKp.out, HKm.out, HNu.out, HR.out, show 2 ≤ i by omega, show i ≤ 12 by omega, H1.out, H2.out]]
                      exact ⟨rfl, HP.out.bel⟩
                    · have HCo := Aside0.mk (show (decide (0 ≤ cost) && decide (cost ≤ 1000)) = false by rw [decide_eq_false h2, Bool.and_false])
                      have h2' : decide (cost ≤ 1000) = false := decide_eq_false h2
                      have H2 := Aside0.mk h2
                      go_wp2
                      go_ret
                      rw [show ruleOk n k cs a b false cost = false from by unfold ruleOk; simp [HM.out, HKp.out, HKm.out, HNu.out, HR.out, show 2 ≤ i by omega, show i ≤ 12 by omega, H2.out]]
                      exact ⟨rfl, HP.out.bel⟩
                  · have h1' : decide (1 ≤ cost) = false := decide_eq_false h1
                    have H1 := Aside0.mk h1
                    go_wp2
                    go_ret
                    rw [show ruleOk n k cs a b false cost = false from by unfold ruleOk; simp [HM.out, HKp.out, HKm.out, HNu.out, HR.out, show 2 ≤ i by omega, show i ≤ 12 by omega, show ¬ 1 ≤ cost by have := H1.out; omega]]
                    exact ⟨rfl, HP.out.bel⟩
    | false =>
      have HKm := Aside0.mk hkm
      clear hkm
      go_enter Try.func7, Try.ntmps7
      go_wp2_with (first
        | ((with_reducible refine gate_dst (N := 3) rfl ?_); refine box_event ?hg (N := 3) ?hd (cs := #[.int .i64 k, .slice A m c, .int .i64 a, .int .i64 b, .bool hard, .int .i64 cost]) (t := 25) ?hr ?_; (case hd => rfl); (case hg => rfl); (case hr => first | (go_simp; done) | (go_simp; rfl)); intro g hg w2 hbox hB; have HP := Aside0.mk (PBox.mk hbox hB (show w.heap.size ≤ g by rw [hg]; exact Nat.le_refl _)); clear hbox hB hg; have hc0 := HP.out.cell 0 rfl; have hc1 := HP.out.cell 1 rfl; have hc2 := HP.out.cell 2 rfl; have hc3 := HP.out.cell 3 rfl; have hc4 := HP.out.cell 4 rfl; have hc5 := HP.out.cell 5 rfl)
        | (go_at_call 21; refine (horariumref15_Known.calls k _ _ (kp15 k)).mono ?_; rintro e w3 ⟨rfl, hD⟩; rw [HKp.out]; have hB := hD.below; clear hD; have HQ := Aside0.mk (HP.out.below hB); clear HP hB hc0 hc1 hc2 hc3 hc4 hc5; have HP := HQ; clear HQ; have hc0 := HP.out.cell 0 rfl; have hc1 := HP.out.cell 1 rfl; have hc2 := HP.out.cell 2 rfl; have hc3 := HP.out.cell 3 rfl; have hc4 := HP.out.cell 4 rfl; have hc5 := HP.out.cell 5 rfl)
        | (go_at_call 22; refine (horariumref16_Known.calls k _ _ (km16 k)).mono ?_; rintro e w3 ⟨rfl, hD⟩; rw [HKm.out]; have hB := hD.below; clear hD; have HQ := Aside0.mk (HP.out.below hB); clear HP hB hc0 hc1 hc2 hc3 hc4 hc5; have HP := HQ; clear HQ; have hc0 := HP.out.cell 0 rfl; have hc1 := HP.out.cell 1 rfl; have hc2 := HP.out.cell 2 rfl; have hc3 := HP.out.cell 3 rfl; have hc4 := HP.out.cell 4 rfl; have hc5 := HP.out.cell 5 rfl))
      go_ret
      rw [show ruleOk n k cs a b hard cost = false from by unfold ruleOk; simp [HM.out, HKp.out, HKm.out]]
      exact ⟨rfl, HP.out.bel⟩
end Go.Proofs.Ytineikfhfmiidaa.Pm

/- Check, Right, Plans, FindClass, Same and Copy at the problems of law 17's example: all rows are empty. -/
namespace Go.Proofs.Ytineikfhfmiidaa.Pm
open Go Go.RowKit Go.Proofs.Ytineikfhfmiidaa.Gp Go.Proofs.YtineikfhfmiidaaW.PrintWords Go.Proofs.YtineikfhfmiidaaW.PrintLast Go.Proofs.YtineikfhfmiidaaW.PrintMore
set_option linter.unusedVariables false
set_option linter.unusedSimpArgs false
theorem name_none : room_Name.f { data := #[] } = some false := by
  unfold room_Name.f
  rw [ByteArray.toList_eq]
  rfl
theorem name_p : room_Name.f { data := #[112] } = some true := by
  unfold room_Name.f
  rw [ByteArray.toList_eq]
  rfl
theorem nilC {α : Type} (d : Kd α) (w : World) : d.C w none 0 [] := ⟨rfl, by omega, fun h => absurd h (Nat.lt_irrefl 0)⟩
set_option maxRecDepth 100000 in
set_option maxHeartbeats 1000000 in
theorem Check_none (w : World) :
    Calls Try.prog 9 #[.agg #[.string { data := #[] }, .int .i64 0, .int .i64 0, .int .i64 0, .slice none 0 0, .slice none 0 0, .slice none 0 0, .slice none 0 0, .slice none 0 0, .slice none 0 0, .slice none 0 0, .int .i64 0, .int .i64 0, .int .i64 0, .int .i64 0]] w fun e w' => e = .returned (.tuple #[.int .i64 18, .int .i64 0]) ∧ Below w.heap.size w w' := by
  have hu40 := Try.underlying40
  have hu29 := Try.underlying29
  have hu38 := Try.underlying38
  go_enter Try.func9, Try.ntmps9
  go_wp2_with (first
    | ((with_reducible refine gate_dst (N := 1) rfl ?_); refine box_event ?hg (N := 1) ?hd (cs := #[.string { data := #[] }, .int .i64 0, .int .i64 0, .int .i64 0, .slice none 0 0, .slice none 0 0, .slice none 0 0, .slice none 0 0, .slice none 0 0, .slice none 0 0, .slice none 0 0, .int .i64 0, .int .i64 0, .int .i64 0, .int .i64 0]) (t := 40) ?hr ?_; (case hd => rfl); (case hg => rfl); (case hr => first | (go_simp; done) | (go_simp; rfl)); intro g hg w2 hbox hB; have HP := Aside0.mk (PBox.mk hbox hB (show w.heap.size ≤ g by rw [hg]; exact Nat.le_refl _)); clear hbox hB hg; have hc0 := HP.out.cell 0 rfl; have hc1 := HP.out.cell 1 rfl; have hc2 := HP.out.cell 2 rfl; have hc3 := HP.out.cell 3 rfl; have hc4 := HP.out.cell 4 rfl; have hc5 := HP.out.cell 5 rfl; have hc6 := HP.out.cell 6 rfl; have hc7 := HP.out.cell 7 rfl; have hc8 := HP.out.cell 8 rfl; have hc9 := HP.out.cell 9 rfl; have hc10 := HP.out.cell 10 rfl; have hc11 := HP.out.cell 11 rfl; have hc12 := HP.out.cell 12 rfl; have hc13 := HP.out.cell 13 rfl; have hc14 := HP.out.cell 14 rfl)
    | (go_at_call 25; refine (room_Name.calls _ _ _ name_none).mono ?_; rintro e w3 ⟨rfl, hD⟩; have hB := hD.below; clear hD; have HQ := Aside0.mk (HP.out.below hB); clear HP hB hc0 hc1 hc2 hc3 hc4 hc5 hc6 hc7 hc8 hc9 hc10 hc11 hc12 hc13 hc14; have HP := HQ; clear HQ; have hc0 := HP.out.cell 0 rfl; have hc1 := HP.out.cell 1 rfl; have hc2 := HP.out.cell 2 rfl; have hc3 := HP.out.cell 3 rfl; have hc4 := HP.out.cell 4 rfl; have hc5 := HP.out.cell 5 rfl; have hc6 := HP.out.cell 6 rfl; have hc7 := HP.out.cell 7 rfl; have hc8 := HP.out.cell 8 rfl; have hc9 := HP.out.cell 9 rfl; have hc10 := HP.out.cell 10 rfl; have hc11 := HP.out.cell 11 rfl; have hc12 := HP.out.cell 12 rfl; have hc13 := HP.out.cell 13 rfl; have hc14 := HP.out.cell 14 rfl))
  refine bodyPost_ret (results_tmp2 rfl _ _ _) rfl ?_
  exact ⟨rfl, by repeat (first | exact HP.out.bel | apply pw_below_drewN | apply below_alloc)⟩
set_option maxRecDepth 100000 in
set_option maxHeartbeats 1000000 in
theorem Check_p (w : World) :
    Calls Try.prog 9 #[.agg #[.string { data := #[112] }, .int .i64 1, .int .i64 5, .int .i64 10, .slice none 0 0, .slice none 0 0, .slice none 0 0, .slice none 0 0, .slice none 0 0, .slice none 0 0, .slice none 0 0, .int .i64 0, .int .i64 0, .int .i64 0, .int .i64 0]] w fun e w' => e = .returned (.tuple #[.int .i64 0, .int .i64 0]) ∧ Below w.heap.size w w' := by
  have hu40 := Try.underlying40
  have hu29 := Try.underlying29
  have hu38 := Try.underlying38
  go_enter Try.func9, Try.ntmps9
  go_wp2_with (first
    | ((with_reducible refine gate_dst (N := 1) rfl ?_); refine box_event ?hg (N := 1) ?hd (cs := #[.string { data := #[112] }, .int .i64 1, .int .i64 5, .int .i64 10, .slice none 0 0, .slice none 0 0, .slice none 0 0, .slice none 0 0, .slice none 0 0, .slice none 0 0, .slice none 0 0, .int .i64 0, .int .i64 0, .int .i64 0, .int .i64 0]) (t := 40) ?hr ?_; (case hd => rfl); (case hg => rfl); (case hr => first | (go_simp; done) | (go_simp; rfl)); intro g hg w2 hbox hB; have HP := Aside0.mk (PBox.mk hbox hB (show w.heap.size ≤ g by rw [hg]; exact Nat.le_refl _)); clear hbox hB hg; have hc0 := HP.out.cell 0 rfl; have hc1 := HP.out.cell 1 rfl; have hc2 := HP.out.cell 2 rfl; have hc3 := HP.out.cell 3 rfl; have hc4 := HP.out.cell 4 rfl; have hc5 := HP.out.cell 5 rfl; have hc6 := HP.out.cell 6 rfl; have hc7 := HP.out.cell 7 rfl; have hc8 := HP.out.cell 8 rfl; have hc9 := HP.out.cell 9 rfl; have hc10 := HP.out.cell 10 rfl; have hc11 := HP.out.cell 11 rfl; have hc12 := HP.out.cell 12 rfl; have hc13 := HP.out.cell 13 rfl; have hc14 := HP.out.cell 14 rfl)
    | (go_at_call 25; refine (room_Name.calls _ _ _ name_p).mono ?_; rintro e w3 ⟨rfl, hD⟩; have hB := hD.below; clear hD; have HQ := Aside0.mk (HP.out.below hB); clear HP hB hc0 hc1 hc2 hc3 hc4 hc5 hc6 hc7 hc8 hc9 hc10 hc11 hc12 hc13 hc14; have HP := HQ; clear HQ; have hc0 := HP.out.cell 0 rfl; have hc1 := HP.out.cell 1 rfl; have hc2 := HP.out.cell 2 rfl; have hc3 := HP.out.cell 3 rfl; have hc4 := HP.out.cell 4 rfl; have hc5 := HP.out.cell 5 rfl; have hc6 := HP.out.cell 6 rfl; have hc7 := HP.out.cell 7 rfl; have hc8 := HP.out.cell 8 rfl; have hc9 := HP.out.cell 9 rfl; have hc10 := HP.out.cell 10 rfl; have hc11 := HP.out.cell 11 rfl; have hc12 := HP.out.cell 12 rfl; have hc13 := HP.out.cell 13 rfl; have hc14 := HP.out.cell 14 rfl)
    | (go_at_call 26; refine (when_RightGrid.calls _ _ _ true _ (by rfl)).mono ?_; rintro e w3 ⟨rfl, hB⟩; have HQ := Aside0.mk (HP.out.below hB); clear HP hB hc0 hc1 hc2 hc3 hc4 hc5 hc6 hc7 hc8 hc9 hc10 hc11 hc12 hc13 hc14; have HP := HQ; clear HQ; have hc0 := HP.out.cell 0 rfl; have hc1 := HP.out.cell 1 rfl; have hc2 := HP.out.cell 2 rfl; have hc3 := HP.out.cell 3 rfl; have hc4 := HP.out.cell 4 rfl; have hc5 := HP.out.cell 5 rfl; have hc6 := HP.out.cell 6 rfl; have hc7 := HP.out.cell 7 rfl; have hc8 := HP.out.cell 8 rfl; have hc9 := HP.out.cell 9 rfl; have hc10 := HP.out.cell 10 rfl; have hc11 := HP.out.cell 11 rfl; have hc12 := HP.out.cell 12 rfl; have hc13 := HP.out.cell 13 rfl; have hc14 := HP.out.cell 14 rfl)
    | (go_at_call 27; refine (badRoom_nil _ _ _ _).mono ?_; rintro e w3 ⟨rfl, hB⟩; have HQ := Aside0.mk (HP.out.below hB); clear HP hB hc0 hc1 hc2 hc3 hc4 hc5 hc6 hc7 hc8 hc9 hc10 hc11 hc12 hc13 hc14; have HP := HQ; clear HQ; have hc0 := HP.out.cell 0 rfl; have hc1 := HP.out.cell 1 rfl; have hc2 := HP.out.cell 2 rfl; have hc3 := HP.out.cell 3 rfl; have hc4 := HP.out.cell 4 rfl; have hc5 := HP.out.cell 5 rfl; have hc6 := HP.out.cell 6 rfl; have hc7 := HP.out.cell 7 rfl; have hc8 := HP.out.cell 8 rfl; have hc9 := HP.out.cell 9 rfl; have hc10 := HP.out.cell 10 rfl; have hc11 := HP.out.cell 11 rfl; have hc12 := HP.out.cell 12 rfl; have hc13 := HP.out.cell 13 rfl; have hc14 := HP.out.cell 14 rfl)
    | (go_at_call 32; refine (badPerson_nil _ _ _ _).mono ?_; rintro e w3 ⟨rfl, hB⟩; have HQ := Aside0.mk (HP.out.below hB); clear HP hB hc0 hc1 hc2 hc3 hc4 hc5 hc6 hc7 hc8 hc9 hc10 hc11 hc12 hc13 hc14; have HP := HQ; clear HQ; have hc0 := HP.out.cell 0 rfl; have hc1 := HP.out.cell 1 rfl; have hc2 := HP.out.cell 2 rfl; have hc3 := HP.out.cell 3 rfl; have hc4 := HP.out.cell 4 rfl; have hc5 := HP.out.cell 5 rfl; have hc6 := HP.out.cell 6 rfl; have hc7 := HP.out.cell 7 rfl; have hc8 := HP.out.cell 8 rfl; have hc9 := HP.out.cell 9 rfl; have hc10 := HP.out.cell 10 rfl; have hc11 := HP.out.cell 11 rfl; have hc12 := HP.out.cell 12 rfl; have hc13 := HP.out.cell 13 rfl; have hc14 := HP.out.cell 14 rfl)
    | (go_at_call 36; refine (badClass_nil _ _ _ _).mono ?_; rintro e w3 ⟨rfl, hB⟩; have HQ := Aside0.mk (HP.out.below hB); clear HP hB hc0 hc1 hc2 hc3 hc4 hc5 hc6 hc7 hc8 hc9 hc10 hc11 hc12 hc13 hc14; have HP := HQ; clear HQ; have hc0 := HP.out.cell 0 rfl; have hc1 := HP.out.cell 1 rfl; have hc2 := HP.out.cell 2 rfl; have hc3 := HP.out.cell 3 rfl; have hc4 := HP.out.cell 4 rfl; have hc5 := HP.out.cell 5 rfl; have hc6 := HP.out.cell 6 rfl; have hc7 := HP.out.cell 7 rfl; have hc8 := HP.out.cell 8 rfl; have hc9 := HP.out.cell 9 rfl; have hc10 := HP.out.cell 10 rfl; have hc11 := HP.out.cell 11 rfl; have hc12 := HP.out.cell 12 rfl; have hc13 := HP.out.cell 13 rfl; have hc14 := HP.out.cell 14 rfl)
    | (go_at_call 40; refine (badCourse_nil _ _ _ _).mono ?_; rintro e w3 ⟨rfl, hB⟩; have HQ := Aside0.mk (HP.out.below hB); clear HP hB hc0 hc1 hc2 hc3 hc4 hc5 hc6 hc7 hc8 hc9 hc10 hc11 hc12 hc13 hc14; have HP := HQ; clear HQ; have hc0 := HP.out.cell 0 rfl; have hc1 := HP.out.cell 1 rfl; have hc2 := HP.out.cell 2 rfl; have hc3 := HP.out.cell 3 rfl; have hc4 := HP.out.cell 4 rfl; have hc5 := HP.out.cell 5 rfl; have hc6 := HP.out.cell 6 rfl; have hc7 := HP.out.cell 7 rfl; have hc8 := HP.out.cell 8 rfl; have hc9 := HP.out.cell 9 rfl; have hc10 := HP.out.cell 10 rfl; have hc11 := HP.out.cell 11 rfl; have hc12 := HP.out.cell 12 rfl; have hc13 := HP.out.cell 13 rfl; have hc14 := HP.out.cell 14 rfl)
    | (go_at_call 44; refine (badStudent_nil _ _ _ _).mono ?_; rintro e w3 ⟨rfl, hB⟩; have HQ := Aside0.mk (HP.out.below hB); clear HP hB hc0 hc1 hc2 hc3 hc4 hc5 hc6 hc7 hc8 hc9 hc10 hc11 hc12 hc13 hc14; have HP := HQ; clear HQ; have hc0 := HP.out.cell 0 rfl; have hc1 := HP.out.cell 1 rfl; have hc2 := HP.out.cell 2 rfl; have hc3 := HP.out.cell 3 rfl; have hc4 := HP.out.cell 4 rfl; have hc5 := HP.out.cell 5 rfl; have hc6 := HP.out.cell 6 rfl; have hc7 := HP.out.cell 7 rfl; have hc8 := HP.out.cell 8 rfl; have hc9 := HP.out.cell 9 rfl; have hc10 := HP.out.cell 10 rfl; have hc11 := HP.out.cell 11 rfl; have hc12 := HP.out.cell 12 rfl; have hc13 := HP.out.cell 13 rfl; have hc14 := HP.out.cell 14 rfl)
    | (go_at_call 48; refine (badRule_nil _ _ _ _).mono ?_; rintro e w3 ⟨rfl, hB⟩; have HQ := Aside0.mk (HP.out.below hB); clear HP hB hc0 hc1 hc2 hc3 hc4 hc5 hc6 hc7 hc8 hc9 hc10 hc11 hc12 hc13 hc14; have HP := HQ; clear HQ; have hc0 := HP.out.cell 0 rfl; have hc1 := HP.out.cell 1 rfl; have hc2 := HP.out.cell 2 rfl; have hc3 := HP.out.cell 3 rfl; have hc4 := HP.out.cell 4 rfl; have hc5 := HP.out.cell 5 rfl; have hc6 := HP.out.cell 6 rfl; have hc7 := HP.out.cell 7 rfl; have hc8 := HP.out.cell 8 rfl; have hc9 := HP.out.cell 9 rfl; have hc10 := HP.out.cell 10 rfl; have hc11 := HP.out.cell 11 rfl; have hc12 := HP.out.cell 12 rfl; have hc13 := HP.out.cell 13 rfl; have hc14 := HP.out.cell 14 rfl)
    | (go_at_call 31; refine (room_RightWalk.calls 5 0 none 0 [] true _ (nilC _ _) (Nat.le_refl _) (by rfl)).mono ?_; rintro e w3 ⟨rfl, hD⟩; have hB := hD.below; clear hD; have HQ := Aside0.mk (HP.out.below hB); clear HP hB hc0 hc1 hc2 hc3 hc4 hc5 hc6 hc7 hc8 hc9 hc10 hc11 hc12 hc13 hc14; have HP := HQ; clear HQ; have hc0 := HP.out.cell 0 rfl; have hc1 := HP.out.cell 1 rfl; have hc2 := HP.out.cell 2 rfl; have hc3 := HP.out.cell 3 rfl; have hc4 := HP.out.cell 4 rfl; have hc5 := HP.out.cell 5 rfl; have hc6 := HP.out.cell 6 rfl; have hc7 := HP.out.cell 7 rfl; have hc8 := HP.out.cell 8 rfl; have hc9 := HP.out.cell 9 rfl; have hc10 := HP.out.cell 10 rfl; have hc11 := HP.out.cell 11 rfl; have hc12 := HP.out.cell 12 rfl; have hc13 := HP.out.cell 13 rfl; have hc14 := HP.out.cell 14 rfl)
    | (go_at_call 20; refine (problem_cost.calls 0 true _ (by rfl)).mono ?_; rintro e w3 ⟨rfl, hD⟩; obtain ⟨m, rfl⟩ := hD.out; clear hD))
  refine bodyPost_ret (results_tmp2 rfl _ _ _) rfl ?_
  exact ⟨rfl, by repeat (first | exact HP.out.bel | apply pw_below_drewN | apply below_alloc)⟩
end Go.Proofs.Ytineikfhfmiidaa.Pm
