/- Words for maps that a call makes: block b of the world is a map that holds f (a function from keys to what they hold); what a look-up, a store, a delete and len do. Over whatever program. -/
import Derived.Maps.OwnSet
import Derived.Maps.OwnOps
import Derived.Test.YtfkmngmnnlgjdaaWMore
namespace Go.Proofs.Ytfkmngmnnlgjdaa.Mw
open Go Go.RowKit Go.Maps

/-- A kind of maps: the types' numbers, how keys and elements are written, and what they read as. -/
structure MK (P : Program) (κ ε : Type) where
  k : TypeId
  e : TypeId
  t : TypeId
  ek : κ → Value
  lk : κ → Lit
  ok : κ → Prop
  ev : ε → Value
  le : ε → DataW Unit
  oke : ε → Prop
  z : ε
  R : Value → Option (DataW Unit × List MemPlace)
  K : Keyed P k
  ht : P.underlying t = some (.map k e)
  hkey : ∀ a, ok a → keyOf P k (ek a) = some (lk a)
  hinj : ∀ a b, ok a → ok b → lk a = lk b → a = b
  hz : ∀ w, (zeroValue e).run P w = .ok (ev z) w
  hzo : oke z
  hR : ∀ x, oke x → R (ev x) = some (le x, [])
  hRi : ∀ v d ps x, R v = some (d, ps) → d = le x → v = ev x

/-- A function with one place turned. -/
def upd {κ ε : Type} [DecidableEq κ] (f : κ → Option ε) (a : κ) (x : Option ε) : κ → Option ε := fun b => if b = a then x else f b

section
variable {P : Program} {κ ε : Type}

theorem ownsMap_tight {P : Program} {k : TypeId} {R : Value → Option (DataW Unit × List MemPlace)} {w : World} {b n : Nat} {D : DataW Unit} (h : w.ownsMap P k R b n D) : w.ownsMap P k R b (Maps.size D) D := by
  obtain ⟨es, clock, hb, F, _, hD⟩ := h
  refine ⟨es, clock, hb, F, ?_, hD⟩
  rw [hD]
  simp [Maps.size, length_sorted]
/-- Block b is a map with m entries; at key a it holds f a. -/
def MIs (M : MK P κ ε) (w : World) (b m : Nat) (f : κ → Option ε) : Prop :=
  ∃ D : DataW Unit, w.ownsMap P M.k M.R b m D ∧ Maps.size D = m ∧ ∀ a, M.ok a → Maps.has D (M.lk a) = (f a).isSome ∧ D.atKey (M.lk a) (M.le M.z) = M.le ((f a).getD M.z)

variable {M : MK P κ ε} {w w' : World} {b m : Nat} {f : κ → Option ε}

theorem MIs.made (M : MK P κ ε) (w : World) : MIs M (w.alloc (.map #[] 0)) w.heap.size 0 (fun _ => none) :=
  ⟨.map [], World.ownsMap_made w P M.k M.R, rfl, fun _ _ => ⟨rfl, rfl⟩⟩
theorem MIs.kept (h : MIs M w b m f) {row : Option Nat} (hg : w.grownBy w' row) (hne : some b ≠ row) : MIs M w' b m f := by
  obtain ⟨D, ho, hs, hf⟩ := h
  exact ⟨D, ho.kept hg hne, hs, hf⟩
theorem MIs.alloc (h : MIs M w b m f) (o : Obj) : MIs M (w.alloc o) b m f := h.kept (World.grownBy_alloc w o none) (by simp)
theorem MIs.drew (h : MIs M w b m f) : MIs M w.drew b m f := h
theorem MIs.drewN (h : MIs M w b m f) (q : Nat) : MIs M (w.drewN q) b m f := by
  obtain ⟨D, ho, hs, hf⟩ := h
  obtain ⟨es, clock, hb, F, hsz, hD⟩ := ho
  exact ⟨D, ⟨es, clock, hb, F, hsz, hD⟩, hs, hf⟩
theorem MIs.lt (h : MIs M w b m f) : b < w.heap.size := by
  obtain ⟨D, ho, _⟩ := h
  exact ho.lt
theorem MIs.below {B : Nat} (h : MIs M w b m f) (hb : Below B w w') (hB : b < B) : MIs M w' b m f := by
  obtain ⟨D, ⟨es, clock, hbk, F, hsz, hD⟩, hs, hf⟩ := h
  exact ⟨D, ⟨es, clock, (hb.block b hB).trans hbk, F, hsz, hD⟩, hs, hf⟩
theorem MIs.setCell (h : MIs M w b m f) {a : Addr} (ha : b ≠ a.block) (u : Value) : MIs M (w.setCell a u) b m f := by
  obtain ⟨D, ho, hs, hf⟩ := h
  exact ⟨D, ho.setCell ha u, hs, hf⟩
theorem MIs.ext (h : MIs M w b m f) {g : κ → Option ε} (hg : ∀ a, M.ok a → g a = f a) : MIs M w b m g := by
  obtain ⟨D, ho, hs, hf⟩ := h
  exact ⟨D, ho, hs, fun a ha => by rw [hg a ha]; exact hf a ha⟩

/-- A look-up. -/
theorem MIs.run_look (h : MIs M w b m f) (a : κ) (ha : M.ok a) : (Instr.lookup M.t (.map (some b)) (M.ek a) false).run P w = .ok (M.ev ((f a).getD M.z)) w := by
  obtain ⟨D, ho, hs, hf⟩ := h
  obtain ⟨v, ps, hrun, hv⟩ := ho.lookup M.K M.ht (M.hz w) (M.hR _ M.hzo) (M.hkey a ha)
  rw [(hf a ha).2] at hv
  rw [hrun, M.hRi _ _ _ _ hv rfl]
/-- A look-up that says whether the key is there. -/
theorem MIs.run_look_ok (h : MIs M w b m f) (a : κ) (ha : M.ok a) : (Instr.lookup M.t (.map (some b)) (M.ek a) true).run P w = .ok (.tuple #[M.ev ((f a).getD M.z), .bool (f a).isSome]) w := by
  obtain ⟨D, ho, hs, hf⟩ := h
  obtain ⟨v, ps, hrun, hv⟩ := ho.look_ok M.K M.ht (M.hz w) (M.hR _ M.hzo) (M.hkey a ha)
  rw [(hf a ha).2] at hv
  rw [hrun, M.hRi _ _ _ _ hv rfl, (hf a ha).1]
theorem MIs.run_len (h : MIs M w b m f) (ty : TypeId) : (Builtin.len_ #[M.t] ty #[.map (some b)]).run P w = .ok (.int .i64 (m : Int)) w := by
  obtain ⟨D, ho, hs, hf⟩ := h
  rw [ho.len M.ht ty, hs]
/-- A store. -/
theorem MIs.run_put [DecidableEq κ] (h : MIs M w b m f) (hn : m < maxLen) (a : κ) (ha : M.ok a) (x : ε) (hx : M.oke x) :
    ∃ w', (Instr.mapUpdate M.t (.map (some b)) (M.ek a) (M.ev x)).run P w = .ok () w' ∧ MIs M w' b (if (f a).isSome then m else m + 1) (upd f a (some x)) ∧ w.grownBy w' (some b) := by
  obtain ⟨D, ho, hs, hf⟩ := h
  obtain ⟨w', hrun, ho', ht⟩ := ho.store M.K M.ht hn (M.hkey a ha) (M.hR x hx)
  have hk := M.K.key (M.hkey a ha)
  have hsz : Maps.size (D.put (M.lk a) (M.le x)) = if (f a).isSome then m else m + 1 := by rw [size_put (ho.tidy M.K), (hf a ha).1, hs]
  refine ⟨w', hrun, ⟨_, hsz ▸ ownsMap_tight ho', hsz, fun c hc => ?_⟩, ht.grown⟩
  · unfold upd
    by_cases hca : c = a
    · subst hca
      rw [if_pos rfl, has_put_same ho.isMap hk, atKey_put_same ho.isMap hk]
      exact ⟨rfl, rfl⟩
    · rw [if_neg hca]
      have hne : M.lk c ≠ M.lk a := fun e => hca (M.hinj c a hc ha e)
      rw [has_put_other hne, atKey_put_other hne]
      exact hf c hc
/-- A delete. -/
theorem MIs.run_del [DecidableEq κ] (h : MIs M w b m f) (a : κ) (ha : M.ok a) (ty : TypeId) :
    ∃ w', (Builtin.delete_ #[M.t, M.k] ty #[.map (some b), M.ek a]).run P w = .ok (.tuple #[]) w' ∧ MIs M w' b (if (f a).isSome then m - 1 else m) (upd f a none) ∧ w.grownBy w' (some b) := by
  obtain ⟨D, ho, hs, hf⟩ := h
  obtain ⟨w', hrun, ho', ht⟩ := ho.drop M.K M.ht (M.hkey a ha) ty
  have hk := M.K.key (M.hkey a ha)
  have hsz : Maps.size (D.del (M.lk a)) = if (f a).isSome then m - 1 else m := by
    have h1 := size_del (k := M.lk a) (ho.tidy M.K)
    rw [(hf a ha).1, hs] at h1
    split at h1 <;> simp_all <;> omega
  refine ⟨w', hrun, ⟨_, hsz ▸ ownsMap_tight ho', hsz, fun c hc => ?_⟩, ht.grown⟩
  · unfold upd
    by_cases hca : c = a
    · subst hca
      rw [if_pos rfl, has_del_same, atKey_del_same]
      exact ⟨rfl, rfl⟩
    · rw [if_neg hca]
      have hne : M.lk c ≠ M.lk a := fun e => hca (M.hinj c a hc ha e)
      rw [has_del_other hne, atKey_del_other hne]
      exact hf c hc
end

section
variable {P : Program} {κ ε : Type} {M : MK P κ ε} {w : World} {b m : Nat} {f : κ → Option ε} {ops : Array Oper} {rest : List Oper} {o : Oper} {a : Act} {Q : Exit → Act → World → Prop}

/-- At the operation, for the walk. -/
theorem wl_look (h : MIs M w b m f) (hg : o.guard = none) (mo x : Operand) (hop : o.op = Op.lookup M.t mo x false) (hm : a.eval mo = .map (some b)) (c : κ) (hc : M.ok c) (hx : a.eval x = M.ek c)
    (hK : wpList P ops Q rest (a.put o.dst (M.ev ((f c).getD M.z))) w) : wpList P ops Q (o :: rest) a w := by
  refine wpList_plain hg fun K' hK' => ?_
  unfold Oper.wp
  simp [execOp, hop, hm, hx, h.run_look c hc, Result.andThen]
  exact hK' _ _ hK
theorem wl_look_ok (h : MIs M w b m f) (hg : o.guard = none) (mo x : Operand) (hop : o.op = Op.lookup M.t mo x true) (hm : a.eval mo = .map (some b)) (c : κ) (hc : M.ok c) (hx : a.eval x = M.ek c)
    (hK : wpList P ops Q rest (a.put o.dst (.tuple #[M.ev ((f c).getD M.z), .bool (f c).isSome])) w) : wpList P ops Q (o :: rest) a w := by
  refine wpList_plain hg fun K' hK' => ?_
  unfold Oper.wp
  simp [execOp, hop, hm, hx, h.run_look_ok c hc, Result.andThen]
  exact hK' _ _ hK
theorem wl_look1 (h : MIs M w b m f) (hg : o.guard = none) (mo x : Operand) (hop : o.op = Op.lookup M.t mo x false) (hm : a.eval mo = .map (some b)) (c : κ) (hc : M.ok c) (hx : a.eval x = M.ek c) (y : ε) (hf : (f c).getD M.z = y) (v : Value) (hv : M.ev y = v)
    (hK : wpList P ops Q rest (a.put o.dst v) w) : wpList P ops Q (o :: rest) a w := by
  subst hf
  subst hv
  exact wl_look h hg mo x hop hm c hc hx hK
theorem wl_ok1 (h : MIs M w b m f) (hg : o.guard = none) (mo x : Operand) (hop : o.op = Op.lookup M.t mo x true) (hm : a.eval mo = .map (some b)) (c : κ) (hc : M.ok c) (hx : a.eval x = M.ek c) (y : ε) (hf : (f c).getD M.z = y) (q : Bool) (hq : (f c).isSome = q) (v : Value) (hv : M.ev y = v)
    (hK : wpList P ops Q rest (a.put o.dst (.tuple #[v, .bool q])) w) : wpList P ops Q (o :: rest) a w := by
  subst hf
  subst hv
  subst hq
  exact wl_look_ok h hg mo x hop hm c hc hx hK
theorem wl_len (h : MIs M w b m f) (hg : o.guard = none) (mo : Operand) (hop : o.op = Op.call { callee := Callee.builtin Builtin.len, args := #[mo], argTypes := #[M.t] }) (hm : a.eval mo = .map (some b))
    (hK : wpList P ops Q rest (a.put o.dst (.int .i64 (m : Int))) w) : wpList P ops Q (o :: rest) a w := by
  refine wpList_plain hg fun K' hK' => ?_
  unfold Oper.wp
  simp [execOp, hop, resolve, invoke, builtin, hm, h.run_len o.type, Result.andThen]
  exact hK' _ _ hK
theorem wl_put [DecidableEq κ] (h : MIs M w b m f) (hg : o.guard = none) (mo x v : Operand) (hop : o.op = Op.mapUpdate M.t mo x v) (hm : a.eval mo = .map (some b)) (hn : m < maxLen) (c : κ) (hc : M.ok c) (hx : a.eval x = M.ek c) (y : ε) (hy : M.oke y) (hv : a.eval v = M.ev y)
    (hK : ∀ w', MIs M w' b (if (f c).isSome then m else m + 1) (upd f c (some y)) → w.grownBy w' (some b) → wpList P ops Q rest (a.put o.dst undef) w') : wpList P ops Q (o :: rest) a w := by
  refine wpList_plain hg fun K' hK' => ?_
  obtain ⟨w', hrun, r1, r2⟩ := h.run_put hn c hc y hy
  unfold Oper.wp
  simp [execOp, hop, hm, hx, hv, hrun, Result.andThen]
  exact hK' _ _ (hK w' r1 r2)
theorem wl_del [DecidableEq κ] (h : MIs M w b m f) (hg : o.guard = none) (mo x : Operand) (hop : o.op = Op.call { callee := Callee.builtin Builtin.delete, args := #[mo, x], argTypes := #[M.t, M.k] }) (hm : a.eval mo = .map (some b)) (c : κ) (hc : M.ok c) (hx : a.eval x = M.ek c)
    (hK : ∀ w', MIs M w' b (if (f c).isSome then m - 1 else m) (upd f c none) → w.grownBy w' (some b) → wpList P ops Q rest (a.put o.dst (.tuple #[])) w') : wpList P ops Q (o :: rest) a w := by
  refine wpList_plain hg fun K' hK' => ?_
  obtain ⟨w', hrun, r1, r2⟩ := h.run_del c hc o.type
  unfold Oper.wp
  simp [execOp, hop, resolve, invoke, builtin, hm, hx, hrun, Result.andThen]
  exact hK' _ _ (hK w' r1 r2)
end

/-- Maps from numbers (int) to bools. -/
def intBool (P : Program) (k e t : TypeId) (hk : P.underlying k = some (.int .i64)) (he : P.underlying e = some .bool) (ht : P.underlying t = some (.map k e)) (hz : ∀ w, (zeroValue e).run P w = .ok (.bool false) w) : MK P Int Bool where
  k := k
  e := e
  t := t
  ek := .int .i64
  lk := .int .i64
  ok := fun a => (Lit.int .i64 a).wf = true
  ev := .bool
  le := fun x => .lit (.bool x)
  oke := fun _ => True
  z := false
  R := plainElem P e
  K := int_keyed hk
  ht := ht
  hkey := fun a ha => keyOf_int_mk hk ha
  hinj := fun a b _ _ h => by injection h
  hz := hz
  hzo := trivial
  hR := fun x _ => plainElem_bool he x
  hRi := fun v d ps x h hd => by
    subst hd
    unfold plainElem at h
    rw [he] at h
    cases v <;> simp at h
    rw [h.1]
/-- Maps from numbers to numbers. -/
def intInt (P : Program) (k e t : TypeId) (hk : P.underlying k = some (.int .i64)) (he : P.underlying e = some (.int .i64)) (ht : P.underlying t = some (.map k e)) (hz : ∀ w, (zeroValue e).run P w = .ok (.int .i64 0) w) : MK P Int Int where
  k := k
  e := e
  t := t
  ek := .int .i64
  lk := .int .i64
  ok := fun a => (Lit.int .i64 a).wf = true
  ev := .int .i64
  le := fun x => .lit (.int .i64 x)
  oke := fun a => (Lit.int .i64 a).wf = true
  z := 0
  R := plainElem P e
  K := int_keyed hk
  ht := ht
  hkey := fun a ha => keyOf_int_mk hk ha
  hinj := fun a b _ _ h => by injection h
  hz := hz
  hzo := by decide
  hR := fun x hx => plainElem_int he hx
  hRi := fun v d ps x h hd => by
    subst hd
    obtain ⟨c, rfl, hc, _⟩ := plainElem_int_inv he h
    injection hc with hc
    injection hc with hc
    injection hc with _ hc
    rw [hc]
/-- Maps from strings to bools. -/
def strBool (P : Program) (k e t : TypeId) (hk : P.underlying k = some .string) (he : P.underlying e = some .bool) (ht : P.underlying t = some (.map k e)) (hz : ∀ w, (zeroValue e).run P w = .ok (.bool false) w) : MK P ByteArray Bool where
  k := k
  e := e
  t := t
  ek := .string
  lk := fun s => .string s.data.toList
  ok := fun s => s.size ≤ maxLen
  ev := .bool
  le := fun x => .lit (.bool x)
  oke := fun _ => True
  z := false
  R := plainElem P e
  K := string_keyed hk
  ht := ht
  hkey := fun a ha => Go.WideMaps.keyOf_string_mk hk ha
  hinj := fun a b _ _ h => by
    injection h with h
    cases a; cases b
    congr 1
    exact Array.toList_inj.1 h
  hz := hz
  hzo := trivial
  hR := fun x _ => plainElem_bool he x
  hRi := fun v d ps x h hd => by
    subst hd
    unfold plainElem at h
    rw [he] at h
    cases v <;> simp at h
    rw [h.1]
theorem wf64 {a : Int} (h0 : -9223372036854775808 ≤ a) (h1 : a ≤ 9223372036854775807) : (Lit.int .i64 a).wf = true := Go.WalkArith.wf_i64 ⟨h0, h1⟩
end Go.Proofs.Ytfkmngmnnlgjdaa.Mw
