import Derived.Test.YtineikfhfmiidaaGreatPkF6
/- The document's Find functions, and the law ProblemFinds, walked. -/
namespace Go.Proofs.YtineikfhfmiidaaGreat.Pm
open Go Go.RowKit Go.Proofs.YtineikfhfmiidaaGreat.Gp Go.Proofs.YtineikfhfmiidaaGreatW.PrintWords Go.Proofs.YtineikfhfmiidaaGreatW.PrintLast Go.Proofs.YtineikfhfmiidaaGreatW.PrintMore
set_option linter.unusedVariables false
set_option linter.unusedSimpArgs false
theorem rfRoom_ev (p : PV) (s : ByteArray) (hl : p.rooms.length ≤ 9223372036854775807) : ∀ d i : Nat, d + i = p.rooms.length → (∀ j y, j < i → p.rooms[j]? = some y → y.f0.toList ≠ s.toList) → Ev (fun k => horariumref17_FindRoom.l0 k s (i : Int) p.nm p.g0 p.g1 p.g2 p.rooms p.walk p.persons p.classes p.courses p.students p.rules p.w0 p.w1 p.w2 p.w3) (findI (fun x => x.f0) p.rooms s 0) := by
  intro d
  induction d with
  | zero =>
    intro i hi hn
    rw [findI_no (fun x => x.f0) s p.rooms 0 (fun x hx => by
      obtain ⟨j, hj, rfl⟩ := List.getElem_of_mem hx
      exact hn j _ (by omega) (List.getElem?_eq_getElem hj))]
    refine Ev.step (f := fun _ => some (-1)) (fun k => ?_) (Ev.now _)
    simp only [horariumref17_FindRoom.l0]
    rw [if_neg (by omega)]
  | succ d ih =>
    intro i hi hn
    obtain ⟨x, hx⟩ : ∃ x, p.rooms[i]? = some x := ⟨_, List.getElem?_eq_getElem (by omega)⟩
    have hr : rd_T47 p.rooms (i : Int) = x := by
      unfold rd_T47
      rw [Int.toNat_natCast, List.getD_eq_getElem?_getD, hx]
      rfl
    by_cases he : x.f0.toList = s.toList
    · rw [findI_at (fun x => x.f0) s p.rooms 0 i x hx he hn, Int.zero_add]
      refine Ev.step (f := fun _ => some (i : Int)) (fun k => ?_) (Ev.now _)
      simp only [horariumref17_FindRoom.l0]
      rw [if_pos (by omega), if_pos (by omega), hr, if_pos he]
    · refine Ev.step (fun k => ?_) (ih (i + 1) (by omega) (fun j y hj hy => ?_))
      · simp only [horariumref17_FindRoom.l0]
        rw [if_pos (by omega), if_pos (by omega), hr, if_neg he, wr1 (by omega)]
      · by_cases e : j = i
        · subst e
          rw [hx] at hy
          cases hy
          exact he
        · exact hn j y (by omega) hy
theorem RFindRoom_is (w : World) (p : PV) (a : PA) (s : ByteArray) (h : PRd w p a) :
    Calls Tryz.prog 22 #[.agg (pcs p a), .string s] w fun e w' => e = .returned (.int .i64 (findI (fun x => x.f0) p.rooms s 0)) ∧ Below w.heap.size w w' := by
  obtain ⟨k, hk⟩ := (rfRoom_ev p s (Kd.C_max h.r4) p.rooms.length 0 rfl (fun j y hj => by omega)).rounds
  exact horariumref17_FindRoom.calls k p.nm p.g0 p.g1 p.g2 a.A4 a.c4 p.rooms a.A5 a.c5 p.walk a.A6 a.c6 p.persons a.A7 a.c7 p.classes a.A8 a.c8 p.courses a.A9 a.c9 p.students a.A10 a.c10 p.rules p.w0 p.w1 p.w2 p.w3 s _ w h.r4 h.l4 h.r5 h.l5 h.r6 h.l6 h.r7 h.l7 h.r8 h.l8 h.r9 h.l9 h.r10 h.l10 hk
theorem rfPerson_ev (p : PV) (s : ByteArray) (hl : p.persons.length ≤ 9223372036854775807) : ∀ d i : Nat, d + i = p.persons.length → (∀ j y, j < i → p.persons[j]? = some y → y.f0.toList ≠ s.toList) → Ev (fun k => horariumref17_FindPerson.l0 k s (i : Int) p.nm p.g0 p.g1 p.g2 p.rooms p.walk p.persons p.classes p.courses p.students p.rules p.w0 p.w1 p.w2 p.w3) (findI (fun x => x.f0) p.persons s 0) := by
  intro d
  induction d with
  | zero =>
    intro i hi hn
    rw [findI_no (fun x => x.f0) s p.persons 0 (fun x hx => by
      obtain ⟨j, hj, rfl⟩ := List.getElem_of_mem hx
      exact hn j _ (by omega) (List.getElem?_eq_getElem hj))]
    refine Ev.step (f := fun _ => some (-1)) (fun k => ?_) (Ev.now _)
    simp only [horariumref17_FindPerson.l0]
    rw [if_neg (by omega)]
  | succ d ih =>
    intro i hi hn
    obtain ⟨x, hx⟩ : ∃ x, p.persons[i]? = some x := ⟨_, List.getElem?_eq_getElem (by omega)⟩
    have hr : rd_T53 p.persons (i : Int) = x := by
      unfold rd_T53
      rw [Int.toNat_natCast, List.getD_eq_getElem?_getD, hx]
      rfl
    by_cases he : x.f0.toList = s.toList
    · rw [findI_at (fun x => x.f0) s p.persons 0 i x hx he hn, Int.zero_add]
      refine Ev.step (f := fun _ => some (i : Int)) (fun k => ?_) (Ev.now _)
      simp only [horariumref17_FindPerson.l0]
      rw [if_pos (by omega), if_pos (by omega), hr, if_pos he]
    · refine Ev.step (fun k => ?_) (ih (i + 1) (by omega) (fun j y hj hy => ?_))
      · simp only [horariumref17_FindPerson.l0]
        rw [if_pos (by omega), if_pos (by omega), hr, if_neg he, wr1 (by omega)]
      · by_cases e : j = i
        · subst e
          rw [hx] at hy
          cases hy
          exact he
        · exact hn j y (by omega) hy
theorem RFindPerson_is (w : World) (p : PV) (a : PA) (s : ByteArray) (h : PRd w p a) :
    Calls Tryz.prog 24 #[.agg (pcs p a), .string s] w fun e w' => e = .returned (.int .i64 (findI (fun x => x.f0) p.persons s 0)) ∧ Below w.heap.size w w' := by
  obtain ⟨k, hk⟩ := (rfPerson_ev p s (Kd.C_max h.r6) p.persons.length 0 rfl (fun j y hj => by omega)).rounds
  exact horariumref17_FindPerson.calls k p.nm p.g0 p.g1 p.g2 a.A4 a.c4 p.rooms a.A5 a.c5 p.walk a.A6 a.c6 p.persons a.A7 a.c7 p.classes a.A8 a.c8 p.courses a.A9 a.c9 p.students a.A10 a.c10 p.rules p.w0 p.w1 p.w2 p.w3 s _ w h.r4 h.l4 h.r5 h.l5 h.r6 h.l6 h.r7 h.l7 h.r8 h.l8 h.r9 h.l9 h.r10 h.l10 hk
theorem rfClass_ev (p : PV) (s : ByteArray) (hl : p.classes.length ≤ 9223372036854775807) : ∀ d i : Nat, d + i = p.classes.length → (∀ j y, j < i → p.classes[j]? = some y → y.f0.toList ≠ s.toList) → Ev (fun k => horariumref17_FindClass.l0 k s (i : Int) p.nm p.g0 p.g1 p.g2 p.rooms p.walk p.persons p.classes p.courses p.students p.rules p.w0 p.w1 p.w2 p.w3) (findI (fun x => x.f0) p.classes s 0) := by
  intro d
  induction d with
  | zero =>
    intro i hi hn
    rw [findI_no (fun x => x.f0) s p.classes 0 (fun x hx => by
      obtain ⟨j, hj, rfl⟩ := List.getElem_of_mem hx
      exact hn j _ (by omega) (List.getElem?_eq_getElem hj))]
    refine Ev.step (f := fun _ => some (-1)) (fun k => ?_) (Ev.now _)
    simp only [horariumref17_FindClass.l0]
    rw [if_neg (by omega)]
  | succ d ih =>
    intro i hi hn
    obtain ⟨x, hx⟩ : ∃ x, p.classes[i]? = some x := ⟨_, List.getElem?_eq_getElem (by omega)⟩
    have hr : rd_T58 p.classes (i : Int) = x := by
      unfold rd_T58
      rw [Int.toNat_natCast, List.getD_eq_getElem?_getD, hx]
      rfl
    by_cases he : x.f0.toList = s.toList
    · rw [findI_at (fun x => x.f0) s p.classes 0 i x hx he hn, Int.zero_add]
      refine Ev.step (f := fun _ => some (i : Int)) (fun k => ?_) (Ev.now _)
      simp only [horariumref17_FindClass.l0]
      rw [if_pos (by omega), if_pos (by omega), hr, if_pos he]
    · refine Ev.step (fun k => ?_) (ih (i + 1) (by omega) (fun j y hj hy => ?_))
      · simp only [horariumref17_FindClass.l0]
        rw [if_pos (by omega), if_pos (by omega), hr, if_neg he, wr1 (by omega)]
      · by_cases e : j = i
        · subst e
          rw [hx] at hy
          cases hy
          exact he
        · exact hn j y (by omega) hy
theorem RFindClass_is (w : World) (p : PV) (a : PA) (s : ByteArray) (h : PRd w p a) :
    Calls Tryz.prog 26 #[.agg (pcs p a), .string s] w fun e w' => e = .returned (.int .i64 (findI (fun x => x.f0) p.classes s 0)) ∧ Below w.heap.size w w' := by
  obtain ⟨k, hk⟩ := (rfClass_ev p s (Kd.C_max h.r7) p.classes.length 0 rfl (fun j y hj => by omega)).rounds
  exact horariumref17_FindClass.calls k p.nm p.g0 p.g1 p.g2 a.A4 a.c4 p.rooms a.A5 a.c5 p.walk a.A6 a.c6 p.persons a.A7 a.c7 p.classes a.A8 a.c8 p.courses a.A9 a.c9 p.students a.A10 a.c10 p.rules p.w0 p.w1 p.w2 p.w3 s _ w h.r4 h.l4 h.r5 h.l5 h.r6 h.l6 h.r7 h.l7 h.r8 h.l8 h.r9 h.l9 h.r10 h.l10 hk
theorem rfCourse_ev (p : PV) (s : ByteArray) (hl : p.courses.length ≤ 9223372036854775807) : ∀ d i : Nat, d + i = p.courses.length → (∀ j y, j < i → p.courses[j]? = some y → y.f0.toList ≠ s.toList) → Ev (fun k => horariumref17_FindCourse.l0 k s (i : Int) p.nm p.g0 p.g1 p.g2 p.rooms p.walk p.persons p.classes p.courses p.students p.rules p.w0 p.w1 p.w2 p.w3) (findI (fun x => x.f0) p.courses s 0) := by
  intro d
  induction d with
  | zero =>
    intro i hi hn
    rw [findI_no (fun x => x.f0) s p.courses 0 (fun x hx => by
      obtain ⟨j, hj, rfl⟩ := List.getElem_of_mem hx
      exact hn j _ (by omega) (List.getElem?_eq_getElem hj))]
    refine Ev.step (f := fun _ => some (-1)) (fun k => ?_) (Ev.now _)
    simp only [horariumref17_FindCourse.l0]
    rw [if_neg (by omega)]
  | succ d ih =>
    intro i hi hn
    obtain ⟨x, hx⟩ : ∃ x, p.courses[i]? = some x := ⟨_, List.getElem?_eq_getElem (by omega)⟩
    have hr : rd_T61 p.courses (i : Int) = x := by
      unfold rd_T61
      rw [Int.toNat_natCast, List.getD_eq_getElem?_getD, hx]
      rfl
    by_cases he : x.f0.toList = s.toList
    · rw [findI_at (fun x => x.f0) s p.courses 0 i x hx he hn, Int.zero_add]
      refine Ev.step (f := fun _ => some (i : Int)) (fun k => ?_) (Ev.now _)
      simp only [horariumref17_FindCourse.l0]
      rw [if_pos (by omega), if_pos (by omega), hr, if_pos he]
    · refine Ev.step (fun k => ?_) (ih (i + 1) (by omega) (fun j y hj hy => ?_))
      · simp only [horariumref17_FindCourse.l0]
        rw [if_pos (by omega), if_pos (by omega), hr, if_neg he, wr1 (by omega)]
      · by_cases e : j = i
        · subst e
          rw [hx] at hy
          cases hy
          exact he
        · exact hn j y (by omega) hy
theorem RFindCourse_is (w : World) (p : PV) (a : PA) (s : ByteArray) (h : PRd w p a) :
    Calls Tryz.prog 28 #[.agg (pcs p a), .string s] w fun e w' => e = .returned (.int .i64 (findI (fun x => x.f0) p.courses s 0)) ∧ Below w.heap.size w w' := by
  obtain ⟨k, hk⟩ := (rfCourse_ev p s (Kd.C_max h.r8) p.courses.length 0 rfl (fun j y hj => by omega)).rounds
  exact horariumref17_FindCourse.calls k p.nm p.g0 p.g1 p.g2 a.A4 a.c4 p.rooms a.A5 a.c5 p.walk a.A6 a.c6 p.persons a.A7 a.c7 p.classes a.A8 a.c8 p.courses a.A9 a.c9 p.students a.A10 a.c10 p.rules p.w0 p.w1 p.w2 p.w3 s _ w h.r4 h.l4 h.r5 h.l5 h.r6 h.l6 h.r7 h.l7 h.r8 h.l8 h.r9 h.l9 h.r10 h.l10 hk
/-- A block of the call's own, and what holds of the argument. -/
structure PBR (w wr : World) (g : Nat) (t : TypeId) (cs : Array Value) (R : World → Prop) : Prop where
  box : PBox w wr g t cs
  arg : R wr
theorem PBR.below {w wr w1 : World} {g : Nat} {t : TypeId} {cs : Array Value} {R : World → Prop} (hR : ∀ w w', R w → Below w.heap.size w w' → R w') (h : PBR w wr g t cs R) (hB : Below wr.heap.size wr w1) : PBR w w1 g t cs R := ⟨h.box.below hB, hR _ _ h.arg hB⟩
def FindsR.T3 : Bool × List (List Nat × List Nat) := (true, [([], []), ([], []), ([0, 1], [0, 1]), ([], []), ([], []), ([3, 4, 2], [3, 4]), ([2, 5], [2, 5]), ([6, 5], [6]), ([7], [7]), ([7], [7]), ([8, 9, 7, 7], [7, 8, 9]), ([7], [7]), ([7], [7]), ([11, 12, 10, 7], [7, 11, 12]), ([10, 13, 7], [7, 10, 13]), ([7, 14], [7, 14]), ([15, 13], [15]), ([16], [16]), ([16], [16]), ([17, 18, 16, 16], [16, 17, 18]), ([16], [16]), ([16], [16]), ([20, 21, 19, 16], [16, 20, 21]), ([19, 22, 16], [16, 19, 22]), ([16, 23], [16, 23]), ([24, 22], [24]), ([25], [25]), ([25], [25]), ([26, 27, 25, 25], [25, 26, 27]), ([25], [25]), ([25], [25]), ([29, 30, 28, 25], [25, 29, 30]), ([28, 31, 25], [25, 28, 31]), ([25, 32], [25, 32]), ([33, 31], [33]), ([34, 34], [34]), ([34, 35], [34, 35]), ([36, 35, 0, 1, 2, 3, 4, 5, 6, 7, 8, 9, 10, 11, 12, 13, 14, 15, 16, 17, 18, 19, 20, 21, 22, 23, 24, 25, 26, 27, 28, 29, 30, 31, 32, 33, 34, 35, 36], [36])])
def FindsR.B3 : List Nat := [0, 0, 3, 0, 0, 31, 63, 127, 255, 255, 1023, 255, 255, 8191, 16383, 32767, 65535, 131071, 131071, 524287, 131071, 131071, 4194303, 8388607, 16777215, 33554431, 67108863, 67108863, 268435455, 67108863, 67108863, 2147483647, 4294967295, 8589934591, 17179869183, 34359738367, 68719476735, 137438953471]
theorem FindsR.tab3 : rtab .any (opsOf Tryz.f6 3) = FindsR.T3 := by kernel_rfl
theorem FindsR.bits3 : waitsOk FindsR.T3.2 FindsR.B3 = true := by kernel_rfl
def BoolRet (e : Ending) : Prop := ∃ b, e = .returned (.bool b)
theorem pallv {w wr : World} {g : Nat} {t : TypeId} {v0 v1 v2 v3 v4 v5 v6 v7 v8 v9 v10 v11 v12 v13 v14 : Value} {R : World → Prop} (h : PBR w wr g t #[v0, v1, v2, v3, v4, v5, v6, v7, v8, v9, v10, v11, v12, v13, v14] R) : wr.cell? ⟨g, 0, none⟩ = some v0 ∧ wr.cell? ⟨g, 1, none⟩ = some v1 ∧ wr.cell? ⟨g, 2, none⟩ = some v2 ∧ wr.cell? ⟨g, 3, none⟩ = some v3 ∧ wr.cell? ⟨g, 4, none⟩ = some v4 ∧ wr.cell? ⟨g, 5, none⟩ = some v5 ∧ wr.cell? ⟨g, 6, none⟩ = some v6 ∧ wr.cell? ⟨g, 7, none⟩ = some v7 ∧ wr.cell? ⟨g, 8, none⟩ = some v8 ∧ wr.cell? ⟨g, 9, none⟩ = some v9 ∧ wr.cell? ⟨g, 10, none⟩ = some v10 ∧ wr.cell? ⟨g, 11, none⟩ = some v11 ∧ wr.cell? ⟨g, 12, none⟩ = some v12 ∧ wr.cell? ⟨g, 13, none⟩ = some v13 ∧ wr.cell? ⟨g, 14, none⟩ = some v14 :=
  ⟨h.box.cell 0 rfl, h.box.cell 1 rfl, h.box.cell 2 rfl, h.box.cell 3 rfl, h.box.cell 4 rfl, h.box.cell 5 rfl, h.box.cell 6 rfl, h.box.cell 7 rfl, h.box.cell 8 rfl, h.box.cell 9 rfl, h.box.cell 10 rfl, h.box.cell 11 rfl, h.box.cell 12 rfl, h.box.cell 13 rfl, h.box.cell 14 rfl⟩
set_option maxRecDepth 100000 in
set_option maxHeartbeats 4000000 in
theorem Finds_core (w : World) (v0 v1 v2 v3 v4 v5 v6 v7 v8 v9 v10 v11 v12 v13 v14 : Value) (s : ByteArray) (n0 n1 n2 n3 : Int) (R : World → Prop) (hRm : ∀ w w', R w → Below w.heap.size w w' → R w') (hR0 : R w)
    (hfew : ∀ w, R w → Calls Tryz.prog 8 #[.agg #[v0, v1, v2, v3, v4, v5, v6, v7, v8, v9, v10, v11, v12, v13, v14]] w fun e w' => BoolRet e ∧ Below w.heap.size w w')
    (hp0 : ∀ w, R w → Calls Tryz.prog 21 #[.agg #[v0, v1, v2, v3, v4, v5, v6, v7, v8, v9, v10, v11, v12, v13, v14], .string s] w fun e w' => e = .returned (.int .i64 n0) ∧ Below w.heap.size w w')
    (hq0 : ∀ w, R w → Calls Tryz.prog 22 #[.agg #[v0, v1, v2, v3, v4, v5, v6, v7, v8, v9, v10, v11, v12, v13, v14], .string s] w fun e w' => e = .returned (.int .i64 n0) ∧ Below w.heap.size w w')
    (hp1 : ∀ w, R w → Calls Tryz.prog 23 #[.agg #[v0, v1, v2, v3, v4, v5, v6, v7, v8, v9, v10, v11, v12, v13, v14], .string s] w fun e w' => e = .returned (.int .i64 n1) ∧ Below w.heap.size w w')
    (hq1 : ∀ w, R w → Calls Tryz.prog 24 #[.agg #[v0, v1, v2, v3, v4, v5, v6, v7, v8, v9, v10, v11, v12, v13, v14], .string s] w fun e w' => e = .returned (.int .i64 n1) ∧ Below w.heap.size w w')
    (hp2 : ∀ w, R w → Calls Tryz.prog 25 #[.agg #[v0, v1, v2, v3, v4, v5, v6, v7, v8, v9, v10, v11, v12, v13, v14], .string s] w fun e w' => e = .returned (.int .i64 n2) ∧ Below w.heap.size w w')
    (hq2 : ∀ w, R w → Calls Tryz.prog 26 #[.agg #[v0, v1, v2, v3, v4, v5, v6, v7, v8, v9, v10, v11, v12, v13, v14], .string s] w fun e w' => e = .returned (.int .i64 n2) ∧ Below w.heap.size w w')
    (hp3 : ∀ w, R w → Calls Tryz.prog 27 #[.agg #[v0, v1, v2, v3, v4, v5, v6, v7, v8, v9, v10, v11, v12, v13, v14], .string s] w fun e w' => e = .returned (.int .i64 n3) ∧ Below w.heap.size w w')
    (hq3 : ∀ w, R w → Calls Tryz.prog 28 #[.agg #[v0, v1, v2, v3, v4, v5, v6, v7, v8, v9, v10, v11, v12, v13, v14], .string s] w fun e w' => e = .returned (.int .i64 n3) ∧ Below w.heap.size w w') :
    Calls Tryz.prog 6 #[.agg #[v0, v1, v2, v3, v4, v5, v6, v7, v8, v9, v10, v11, v12, v13, v14], .string s] w fun e w' => e = .returned (.bool true) ∧ Below w.heap.size w w' := by
  have HRm := Aside0.mk hRm
  have HR0 := Aside0.mk hR0
  have HFew := Aside0.mk hfew
  have HP0 := Aside0.mk hp0
  have HQ0 := Aside0.mk hq0
  have HP1 := Aside0.mk hp1
  have HQ1 := Aside0.mk hq1
  have HP2 := Aside0.mk hp2
  have HQ2 := Aside0.mk hq2
  have HP3 := Aside0.mk hp3
  have HQ3 := Aside0.mk hq3
  clear hRm hR0 hfew hp0 hp1 hp2 hp3 hq0 hq1 hq2 hq3
  have hu := Tryz.underlying34
  go_enter Tryz.func6, Tryz.ntmps6
  go_wp2_with (first
    | ((with_reducible refine gate_dst (N := 2) rfl ?_); refine box_event ?hg (N := 2) ?hd (cs := #[v0, v1, v2, v3, v4, v5, v6, v7, v8, v9, v10, v11, v12, v13, v14]) (t := 34) ?hr ?_; (case hd => rfl); (case hg => rfl); (case hr => first | (go_simp; done) | (go_simp; rfl)); intro g hg w2 hbox hB; have HP := Aside0.mk (PBR.mk (PBox.mk hbox hB (show w.heap.size ≤ g by rw [hg]; exact Nat.le_refl _)) (HRm.out _ _ HR0.out hB)); clear hbox hB hg HR0; obtain ⟨hc0, hc1, hc2, hc3, hc4, hc5, hc6, hc7, hc8, hc9, hc10, hc11, hc12, hc13, hc14⟩ := pallv HP.out)
    | (go_at_call 8; refine (HFew.out _ HP.out.arg).mono ?_; rintro e w3 ⟨⟨fb, rfl⟩, hB⟩; have HQ := Aside0.mk (PBR.below HRm.out HP.out hB); clear HP hB hc0 hc1 hc2 hc3 hc4 hc5 hc6 hc7 hc8 hc9 hc10 hc11 hc12 hc13 hc14; have HP := HQ; clear HQ; obtain ⟨hc0, hc1, hc2, hc3, hc4, hc5, hc6, hc7, hc8, hc9, hc10, hc11, hc12, hc13, hc14⟩ := pallv HP.out)
    | (go_at_call 9; refine (heads_is _).mono ?_; rintro e w3 ⟨rfl, hB⟩; have HQ := Aside0.mk (PBR.below HRm.out HP.out hB); clear HP hB hc0 hc1 hc2 hc3 hc4 hc5 hc6 hc7 hc8 hc9 hc10 hc11 hc12 hc13 hc14; have HP := HQ; clear HQ; obtain ⟨hc0, hc1, hc2, hc3, hc4, hc5, hc6, hc7, hc8, hc9, hc10, hc11, hc12, hc13, hc14⟩ := pallv HP.out))
  · go_ret
    exact ⟨rfl, HP.out.box.bel⟩
  · skip
    as_aux_lemma =>
      refine start_ (n := 38) (S := fun w' => w'.cell? ⟨g, 0, none⟩ = some v0 ∧ w'.cell? ⟨g, 1, none⟩ = some v1 ∧ w'.cell? ⟨g, 2, none⟩ = some v2 ∧ w'.cell? ⟨g, 3, none⟩ = some v3 ∧ w'.cell? ⟨g, 4, none⟩ = some v4 ∧ w'.cell? ⟨g, 5, none⟩ = some v5 ∧ w'.cell? ⟨g, 6, none⟩ = some v6 ∧ w'.cell? ⟨g, 7, none⟩ = some v7 ∧ w'.cell? ⟨g, 8, none⟩ = some v8 ∧ w'.cell? ⟨g, 9, none⟩ = some v9 ∧ w'.cell? ⟨g, 10, none⟩ = some v10 ∧ w'.cell? ⟨g, 11, none⟩ = some v11 ∧ w'.cell? ⟨g, 12, none⟩ = some v12 ∧ w'.cell? ⟨g, 13, none⟩ = some v13 ∧ w'.cell? ⟨g, 14, none⟩ = some v14) (ds := []) #[false, false, false, false, false, false, false, false, false, false, false, false, false, false, false, false, false, false, false, false, false, false, false, false, false, false, false, false, false, false, false, false, false, false, false, false, false, false] (by kernel_rfl) rfl rfl (pallv (PBR.below HRm.out HP.out (below_drew (Below.refl _ _)))) (fun hHeld => ?_); refine with_tabW FindsR.tab3 FindsR.bits3 (fun HT_ HW_ => ?_)
      have HPd := Aside0.mk (PBR.below HRm.out HP.out (below_drew (Below.refl _ _)))
      clear HP
      generalize w3.drew = wx at HPd hHeld ⊢
      refine take_ (i := 0) (N := some 9) (v := ?_) (a' := ?_) #[true, false, false, false, false, false, false, false, false, false, false, false, false, false, false, false, false, false, false, false, false, false, false, false, false, false, false, false, false, false, false, false, false, false, false, false, false, false] rfl rfl (take_ofW HT_.out HW_.out (by kernel_rfl)) (fun _ _ _ h => h) (Or.inl ⟨by rfl, ?_⟩) hHeld ?_ ?_
      rotate_left
      · intro w' s0
        (obtain ⟨s0, s1, s2, s3, s4, s5, s6, s7, s8, s9, s10, s11, s12, s13, s14⟩ := s0)
        go_simp
        with_reducible rfl
      rotate_left
      · simp only [Act.put, List.setIfInBounds_toArray, List.set_cons_zero, List.set_cons_succ, i64_w, i32_w]
        rfl
      refine pure_ (i := 1) (N := some 10) (v := ?_) (a' := ?_) #[true, true, false, false, false, false, false, false, false, false, false, false, false, false, false, false, false, false, false, false, false, false, false, false, false, false, false, false, false, false, false, false, false, false, false, false, false, false] rfl rfl (any_of HT_.out (by kernel_rfl)) (fun _ _ _ h => h) (Or.inl ⟨by rfl, ?_⟩) ?_ ?_
      rotate_left
      · intro w'
        go_simp
        with_reducible rfl
      rotate_left
      · simp only [Act.put, List.setIfInBounds_toArray, List.set_cons_zero, List.set_cons_succ, i64_w, i32_w]
        rfl
      refine take_ (i := 3) (N := some 12) (v := ?_) (a' := ?_) #[true, true, false, true, false, false, false, false, false, false, false, false, false, false, false, false, false, false, false, false, false, false, false, false, false, false, false, false, false, false, false, false, false, false, false, false, false, false] rfl rfl (take_ofW HT_.out HW_.out (by kernel_rfl)) (fun _ _ _ h => h) (Or.inl ⟨by rfl, ?_⟩) hHeld ?_ ?_
      rotate_left
      · intro w' s0
        (obtain ⟨s0, s1, s2, s3, s4, s5, s6, s7, s8, s9, s10, s11, s12, s13, s14⟩ := s0)
        go_simp
        with_reducible rfl
      rotate_left
      · simp only [Act.put, List.setIfInBounds_toArray, List.set_cons_zero, List.set_cons_succ, i64_w, i32_w]
        rfl
      refine pure_ (i := 4) (N := some 13) (v := ?_) (a' := ?_) #[true, true, false, true, true, false, false, false, false, false, false, false, false, false, false, false, false, false, false, false, false, false, false, false, false, false, false, false, false, false, false, false, false, false, false, false, false, false] rfl rfl (any_of HT_.out (by kernel_rfl)) (fun _ _ _ h => h) (Or.inl ⟨by rfl, ?_⟩) ?_ ?_
      rotate_left
      · intro w'
        go_simp
        with_reducible rfl
      rotate_left
      · simp only [Act.put, List.setIfInBounds_toArray, List.set_cons_zero, List.set_cons_succ, i64_w, i32_w]
        rfl
      as_aux_lemma =>
        refine one_ (i := 2) (N := some 11) #[true, true, true, true, true, false, false, false, false, false, false, false, false, false, false, false, false, false, false, false, false, false, false, false, false, false, false, false, false, false, false, false, false, false, false, false, false, false] rfl rfl (one_of HT_.out (by kernel_rfl)) (by decide) (fun K hK => ?_)
        refine goes_ Tryz.func21 (by kernel_rfl) rfl #[.agg #[v0, v1, v2, v3, v4, v5, v6, v7, v8, v9, v10, v11, v12, v13, v14], .string s] (by rfl) rfl rfl (by (try simp only [List.map_toArray, List.map_cons, List.map_nil]); first | done | rfl) ?_
        refine (HP0.out _ HPd.out.arg).mono ?_
        rintro e wk ⟨rfl, hb⟩
        have HQ := Aside0.mk (PBR.below HRm.out HPd.out hb)
        clear HPd hb
        have HPd := HQ
        clear HQ
        refine ⟨_, rfl, hK.out _ _ (pallv HPd.out) (fun hHeld => ?_)⟩
        clear hK K
        refine norm_ (a' := ?_) ?_ ?_
        rotate_left
        · show Act.put _ (some 11) _ = _
          simp only [Act.put, List.setIfInBounds_toArray, List.set_cons_zero, List.set_cons_succ, i64_w, i32_w]
          rfl
        as_aux_lemma =>
          refine one_ (i := 5) (N := some 14) #[true, true, true, true, true, true, false, false, false, false, false, false, false, false, false, false, false, false, false, false, false, false, false, false, false, false, false, false, false, false, false, false, false, false, false, false, false, false] rfl rfl (one_of HT_.out (by kernel_rfl)) (by decide) (fun K hK => ?_)
          refine goes_ Tryz.func22 (by kernel_rfl) rfl #[.agg #[v0, v1, v2, v3, v4, v5, v6, v7, v8, v9, v10, v11, v12, v13, v14], .string s] (by rfl) rfl rfl (by (try simp only [List.map_toArray, List.map_cons, List.map_nil]); first | done | rfl) ?_
          refine (HQ0.out _ HPd.out.arg).mono ?_
          rintro e wk ⟨rfl, hb⟩
          have HQ := Aside0.mk (PBR.below HRm.out HPd.out hb)
          clear HPd hb
          have HPd := HQ
          clear HQ
          refine ⟨_, rfl, hK.out _ _ (pallv HPd.out) (fun hHeld => ?_)⟩
          clear hK K
          refine norm_ (a' := ?_) ?_ ?_
          rotate_left
          · show Act.put _ (some 14) _ = _
            simp only [Act.put, List.setIfInBounds_toArray, List.set_cons_zero, List.set_cons_succ, i64_w, i32_w]
            rfl
          refine pure_ (i := 6) (N := some 15) (v := ?_) (a' := ?_) #[true, true, true, true, true, true, true, false, false, false, false, false, false, false, false, false, false, false, false, false, false, false, false, false, false, false, false, false, false, false, false, false, false, false, false, false, false, false] rfl rfl (any_of HT_.out (by kernel_rfl)) (fun _ _ _ h => h) (Or.inl ⟨by rfl, ?_⟩) ?_ ?_
          rotate_left
          · intro w'
            go_simp
            with_reducible rfl
          rotate_left
          · simp only [Act.put, List.setIfInBounds_toArray, List.set_cons_zero, List.set_cons_succ, i64_w, i32_w]
            rfl
          refine pure_ (i := 7) (N := some 16) (v := ?_) (a' := ?_) #[true, true, true, true, true, true, true, true, false, false, false, false, false, false, false, false, false, false, false, false, false, false, false, false, false, false, false, false, false, false, false, false, false, false, false, false, false, false] rfl rfl (any_of HT_.out (by kernel_rfl)) (fun _ _ _ h => h) (Or.inl ⟨by rfl, ?_⟩) ?_ ?_
          rotate_left
          · intro w'
            go_simp
            with_reducible rfl
          rotate_left
          · simp only [Act.put, List.setIfInBounds_toArray, List.set_cons_zero, List.set_cons_succ, i64_w, i32_w]
            rfl
          refine take_ (i := 8) (N := some 17) (v := ?_) (a' := ?_) #[true, true, true, true, true, true, true, true, true, false, false, false, false, false, false, false, false, false, false, false, false, false, false, false, false, false, false, false, false, false, false, false, false, false, false, false, false, false] rfl rfl (take_ofW HT_.out HW_.out (by kernel_rfl)) (fun _ _ _ h => h) (Or.inl ⟨by rfl, ?_⟩) hHeld ?_ ?_
          rotate_left
          · intro w' s0
            (obtain ⟨s0, s1, s2, s3, s4, s5, s6, s7, s8, s9, s10, s11, s12, s13, s14⟩ := s0)
            go_simp
            with_reducible rfl
          rotate_left
          · simp only [Act.put, List.setIfInBounds_toArray, List.set_cons_zero, List.set_cons_succ, i64_w, i32_w]
            rfl
          refine pure_ (i := 9) (N := some 18) (v := ?_) (a' := ?_) #[true, true, true, true, true, true, true, true, true, true, false, false, false, false, false, false, false, false, false, false, false, false, false, false, false, false, false, false, false, false, false, false, false, false, false, false, false, false] rfl rfl (any_of HT_.out (by kernel_rfl)) (fun _ _ _ h => h) (Or.inl ⟨by rfl, ?_⟩) ?_ ?_
          rotate_left
          · intro w'
            go_simp
            with_reducible rfl
          rotate_left
          · simp only [Act.put, List.setIfInBounds_toArray, List.set_cons_zero, List.set_cons_succ, i64_w, i32_w]
            rfl
          refine take_ (i := 11) (N := some 20) (v := ?_) (a' := ?_) #[true, true, true, true, true, true, true, true, true, true, false, true, false, false, false, false, false, false, false, false, false, false, false, false, false, false, false, false, false, false, false, false, false, false, false, false, false, false] rfl rfl (take_ofW HT_.out HW_.out (by kernel_rfl)) (fun _ _ _ h => h) (Or.inl ⟨by rfl, ?_⟩) hHeld ?_ ?_
          rotate_left
          · intro w' s0
            (obtain ⟨s0, s1, s2, s3, s4, s5, s6, s7, s8, s9, s10, s11, s12, s13, s14⟩ := s0)
            go_simp
            with_reducible rfl
          rotate_left
          · simp only [Act.put, List.setIfInBounds_toArray, List.set_cons_zero, List.set_cons_succ, i64_w, i32_w]
            rfl
          refine pure_ (i := 12) (N := some 21) (v := ?_) (a' := ?_) #[true, true, true, true, true, true, true, true, true, true, false, true, true, false, false, false, false, false, false, false, false, false, false, false, false, false, false, false, false, false, false, false, false, false, false, false, false, false] rfl rfl (any_of HT_.out (by kernel_rfl)) (fun _ _ _ h => h) (Or.inl ⟨by rfl, ?_⟩) ?_ ?_
          rotate_left
          · intro w'
            go_simp
            with_reducible rfl
          rotate_left
          · simp only [Act.put, List.setIfInBounds_toArray, List.set_cons_zero, List.set_cons_succ, i64_w, i32_w]
            rfl
          as_aux_lemma =>
            refine one_ (i := 10) (N := some 19) #[true, true, true, true, true, true, true, true, true, true, true, true, true, false, false, false, false, false, false, false, false, false, false, false, false, false, false, false, false, false, false, false, false, false, false, false, false, false] rfl rfl (one_of HT_.out (by kernel_rfl)) (by decide) (fun K hK => ?_)
            refine goes_ Tryz.func23 (by kernel_rfl) rfl #[.agg #[v0, v1, v2, v3, v4, v5, v6, v7, v8, v9, v10, v11, v12, v13, v14], .string s] (by rfl) rfl rfl (by (try simp only [List.map_toArray, List.map_cons, List.map_nil]); first | done | rfl) ?_
            refine (HP1.out _ HPd.out.arg).mono ?_
            rintro e wk ⟨rfl, hb⟩
            have HQ := Aside0.mk (PBR.below HRm.out HPd.out hb)
            clear HPd hb
            have HPd := HQ
            clear HQ
            refine ⟨_, rfl, hK.out _ _ (pallv HPd.out) (fun hHeld => ?_)⟩
            clear hK K
            refine norm_ (a' := ?_) ?_ ?_
            rotate_left
            · show Act.put _ (some 19) _ = _
              simp only [Act.put, List.setIfInBounds_toArray, List.set_cons_zero, List.set_cons_succ, i64_w, i32_w]
              rfl
            as_aux_lemma =>
              refine one_ (i := 13) (N := some 22) #[true, true, true, true, true, true, true, true, true, true, true, true, true, true, false, false, false, false, false, false, false, false, false, false, false, false, false, false, false, false, false, false, false, false, false, false, false, false] rfl rfl (one_of HT_.out (by kernel_rfl)) (by decide) (fun K hK => ?_)
              refine goes_ Tryz.func24 (by kernel_rfl) rfl #[.agg #[v0, v1, v2, v3, v4, v5, v6, v7, v8, v9, v10, v11, v12, v13, v14], .string s] (by rfl) rfl rfl (by (try simp only [List.map_toArray, List.map_cons, List.map_nil]); first | done | rfl) ?_
              refine (HQ1.out _ HPd.out.arg).mono ?_
              rintro e wk ⟨rfl, hb⟩
              have HQ := Aside0.mk (PBR.below HRm.out HPd.out hb)
              clear HPd hb
              have HPd := HQ
              clear HQ
              refine ⟨_, rfl, hK.out _ _ (pallv HPd.out) (fun hHeld => ?_)⟩
              clear hK K
              refine norm_ (a' := ?_) ?_ ?_
              rotate_left
              · show Act.put _ (some 22) _ = _
                simp only [Act.put, List.setIfInBounds_toArray, List.set_cons_zero, List.set_cons_succ, i64_w, i32_w]
                rfl
              refine pure_ (i := 14) (N := some 23) (v := ?_) (a' := ?_) #[true, true, true, true, true, true, true, true, true, true, true, true, true, true, true, false, false, false, false, false, false, false, false, false, false, false, false, false, false, false, false, false, false, false, false, false, false, false] rfl rfl (any_of HT_.out (by kernel_rfl)) (fun _ _ _ h => h) (Or.inl ⟨by rfl, ?_⟩) ?_ ?_
              rotate_left
              · intro w'
                go_simp
                with_reducible rfl
              rotate_left
              · simp only [Act.put, List.setIfInBounds_toArray, List.set_cons_zero, List.set_cons_succ, i64_w, i32_w]
                rfl
              refine pure_ (i := 15) (N := some 24) (v := ?_) (a' := ?_) #[true, true, true, true, true, true, true, true, true, true, true, true, true, true, true, true, false, false, false, false, false, false, false, false, false, false, false, false, false, false, false, false, false, false, false, false, false, false] rfl rfl (any_of HT_.out (by kernel_rfl)) (fun _ _ _ h => h) (Or.inl ⟨by rfl, ?_⟩) ?_ ?_
              rotate_left
              · intro w'
                go_simp
                with_reducible rfl
              rotate_left
              · simp only [Act.put, List.setIfInBounds_toArray, List.set_cons_zero, List.set_cons_succ, i64_w, i32_w]
                rfl
              refine pure_ (i := 16) (N := some 25) (v := ?_) (a' := ?_) #[true, true, true, true, true, true, true, true, true, true, true, true, true, true, true, true, true, false, false, false, false, false, false, false, false, false, false, false, false, false, false, false, false, false, false, false, false, false] rfl rfl (any_of HT_.out (by kernel_rfl)) (fun _ _ _ h => h) (Or.inl ⟨by rfl, ?_⟩) ?_ ?_
              rotate_left
              · intro w'
                go_simp
                with_reducible rfl
              rotate_left
              · simp only [Act.put, List.setIfInBounds_toArray, List.set_cons_zero, List.set_cons_succ, i64_w, i32_w]
                rfl
              refine take_ (i := 17) (N := some 26) (v := ?_) (a' := ?_) #[true, true, true, true, true, true, true, true, true, true, true, true, true, true, true, true, true, true, false, false, false, false, false, false, false, false, false, false, false, false, false, false, false, false, false, false, false, false] rfl rfl (take_ofW HT_.out HW_.out (by kernel_rfl)) (fun _ _ _ h => h) (Or.inl ⟨by rfl, ?_⟩) hHeld ?_ ?_
              rotate_left
              · intro w' s0
                (obtain ⟨s0, s1, s2, s3, s4, s5, s6, s7, s8, s9, s10, s11, s12, s13, s14⟩ := s0)
                go_simp
                with_reducible rfl
              rotate_left
              · simp only [Act.put, List.setIfInBounds_toArray, List.set_cons_zero, List.set_cons_succ, i64_w, i32_w]
                rfl
              refine pure_ (i := 18) (N := some 27) (v := ?_) (a' := ?_) #[true, true, true, true, true, true, true, true, true, true, true, true, true, true, true, true, true, true, true, false, false, false, false, false, false, false, false, false, false, false, false, false, false, false, false, false, false, false] rfl rfl (any_of HT_.out (by kernel_rfl)) (fun _ _ _ h => h) (Or.inl ⟨by rfl, ?_⟩) ?_ ?_
              rotate_left
              · intro w'
                go_simp
                with_reducible rfl
              rotate_left
              · simp only [Act.put, List.setIfInBounds_toArray, List.set_cons_zero, List.set_cons_succ, i64_w, i32_w]
                rfl
              refine take_ (i := 20) (N := some 29) (v := ?_) (a' := ?_) #[true, true, true, true, true, true, true, true, true, true, true, true, true, true, true, true, true, true, true, false, true, false, false, false, false, false, false, false, false, false, false, false, false, false, false, false, false, false] rfl rfl (take_ofW HT_.out HW_.out (by kernel_rfl)) (fun _ _ _ h => h) (Or.inl ⟨by rfl, ?_⟩) hHeld ?_ ?_
              rotate_left
              · intro w' s0
                (obtain ⟨s0, s1, s2, s3, s4, s5, s6, s7, s8, s9, s10, s11, s12, s13, s14⟩ := s0)
                go_simp
                with_reducible rfl
              rotate_left
              · simp only [Act.put, List.setIfInBounds_toArray, List.set_cons_zero, List.set_cons_succ, i64_w, i32_w]
                rfl
              refine pure_ (i := 21) (N := some 30) (v := ?_) (a' := ?_) #[true, true, true, true, true, true, true, true, true, true, true, true, true, true, true, true, true, true, true, false, true, true, false, false, false, false, false, false, false, false, false, false, false, false, false, false, false, false] rfl rfl (any_of HT_.out (by kernel_rfl)) (fun _ _ _ h => h) (Or.inl ⟨by rfl, ?_⟩) ?_ ?_
              rotate_left
              · intro w'
                go_simp
                with_reducible rfl
              rotate_left
              · simp only [Act.put, List.setIfInBounds_toArray, List.set_cons_zero, List.set_cons_succ, i64_w, i32_w]
                rfl
              as_aux_lemma =>
                refine one_ (i := 19) (N := some 28) #[true, true, true, true, true, true, true, true, true, true, true, true, true, true, true, true, true, true, true, true, true, true, false, false, false, false, false, false, false, false, false, false, false, false, false, false, false, false] rfl rfl (one_of HT_.out (by kernel_rfl)) (by decide) (fun K hK => ?_)
                refine goes_ Tryz.func25 (by kernel_rfl) rfl #[.agg #[v0, v1, v2, v3, v4, v5, v6, v7, v8, v9, v10, v11, v12, v13, v14], .string s] (by rfl) rfl rfl (by (try simp only [List.map_toArray, List.map_cons, List.map_nil]); first | done | rfl) ?_
                refine (HP2.out _ HPd.out.arg).mono ?_
                rintro e wk ⟨rfl, hb⟩
                have HQ := Aside0.mk (PBR.below HRm.out HPd.out hb)
                clear HPd hb
                have HPd := HQ
                clear HQ
                refine ⟨_, rfl, hK.out _ _ (pallv HPd.out) (fun hHeld => ?_)⟩
                clear hK K
                refine norm_ (a' := ?_) ?_ ?_
                rotate_left
                · show Act.put _ (some 28) _ = _
                  simp only [Act.put, List.setIfInBounds_toArray, List.set_cons_zero, List.set_cons_succ, i64_w, i32_w]
                  rfl
                as_aux_lemma =>
                  refine one_ (i := 22) (N := some 31) #[true, true, true, true, true, true, true, true, true, true, true, true, true, true, true, true, true, true, true, true, true, true, true, false, false, false, false, false, false, false, false, false, false, false, false, false, false, false] rfl rfl (one_of HT_.out (by kernel_rfl)) (by decide) (fun K hK => ?_)
                  refine goes_ Tryz.func26 (by kernel_rfl) rfl #[.agg #[v0, v1, v2, v3, v4, v5, v6, v7, v8, v9, v10, v11, v12, v13, v14], .string s] (by rfl) rfl rfl (by (try simp only [List.map_toArray, List.map_cons, List.map_nil]); first | done | rfl) ?_
                  refine (HQ2.out _ HPd.out.arg).mono ?_
                  rintro e wk ⟨rfl, hb⟩
                  have HQ := Aside0.mk (PBR.below HRm.out HPd.out hb)
                  clear HPd hb
                  have HPd := HQ
                  clear HQ
                  refine ⟨_, rfl, hK.out _ _ (pallv HPd.out) (fun hHeld => ?_)⟩
                  clear hK K
                  refine norm_ (a' := ?_) ?_ ?_
                  rotate_left
                  · show Act.put _ (some 31) _ = _
                    simp only [Act.put, List.setIfInBounds_toArray, List.set_cons_zero, List.set_cons_succ, i64_w, i32_w]
                    rfl
                  refine pure_ (i := 23) (N := some 32) (v := ?_) (a' := ?_) #[true, true, true, true, true, true, true, true, true, true, true, true, true, true, true, true, true, true, true, true, true, true, true, true, false, false, false, false, false, false, false, false, false, false, false, false, false, false] rfl rfl (any_of HT_.out (by kernel_rfl)) (fun _ _ _ h => h) (Or.inl ⟨by rfl, ?_⟩) ?_ ?_
                  rotate_left
                  · intro w'
                    go_simp
                    with_reducible rfl
                  rotate_left
                  · simp only [Act.put, List.setIfInBounds_toArray, List.set_cons_zero, List.set_cons_succ, i64_w, i32_w]
                    rfl
                  refine pure_ (i := 24) (N := some 33) (v := ?_) (a' := ?_) #[true, true, true, true, true, true, true, true, true, true, true, true, true, true, true, true, true, true, true, true, true, true, true, true, true, false, false, false, false, false, false, false, false, false, false, false, false, false] rfl rfl (any_of HT_.out (by kernel_rfl)) (fun _ _ _ h => h) (Or.inl ⟨by rfl, ?_⟩) ?_ ?_
                  rotate_left
                  · intro w'
                    go_simp
                    with_reducible rfl
                  rotate_left
                  · simp only [Act.put, List.setIfInBounds_toArray, List.set_cons_zero, List.set_cons_succ, i64_w, i32_w]
                    rfl
                  refine pure_ (i := 25) (N := some 34) (v := ?_) (a' := ?_) #[true, true, true, true, true, true, true, true, true, true, true, true, true, true, true, true, true, true, true, true, true, true, true, true, true, true, false, false, false, false, false, false, false, false, false, false, false, false] rfl rfl (any_of HT_.out (by kernel_rfl)) (fun _ _ _ h => h) (Or.inl ⟨by rfl, ?_⟩) ?_ ?_
                  rotate_left
                  · intro w'
                    go_simp
                    with_reducible rfl
                  rotate_left
                  · simp only [Act.put, List.setIfInBounds_toArray, List.set_cons_zero, List.set_cons_succ, i64_w, i32_w]
                    rfl
                  refine take_ (i := 26) (N := some 35) (v := ?_) (a' := ?_) #[true, true, true, true, true, true, true, true, true, true, true, true, true, true, true, true, true, true, true, true, true, true, true, true, true, true, true, false, false, false, false, false, false, false, false, false, false, false] rfl rfl (take_ofW HT_.out HW_.out (by kernel_rfl)) (fun _ _ _ h => h) (Or.inl ⟨by rfl, ?_⟩) hHeld ?_ ?_
                  rotate_left
                  · intro w' s0
                    (obtain ⟨s0, s1, s2, s3, s4, s5, s6, s7, s8, s9, s10, s11, s12, s13, s14⟩ := s0)
                    go_simp
                    with_reducible rfl
                  rotate_left
                  · simp only [Act.put, List.setIfInBounds_toArray, List.set_cons_zero, List.set_cons_succ, i64_w, i32_w]
                    rfl
                  refine pure_ (i := 27) (N := some 36) (v := ?_) (a' := ?_) #[true, true, true, true, true, true, true, true, true, true, true, true, true, true, true, true, true, true, true, true, true, true, true, true, true, true, true, true, false, false, false, false, false, false, false, false, false, false] rfl rfl (any_of HT_.out (by kernel_rfl)) (fun _ _ _ h => h) (Or.inl ⟨by rfl, ?_⟩) ?_ ?_
                  rotate_left
                  · intro w'
                    go_simp
                    with_reducible rfl
                  rotate_left
                  · simp only [Act.put, List.setIfInBounds_toArray, List.set_cons_zero, List.set_cons_succ, i64_w, i32_w]
                    rfl
                  refine take_ (i := 29) (N := some 38) (v := ?_) (a' := ?_) #[true, true, true, true, true, true, true, true, true, true, true, true, true, true, true, true, true, true, true, true, true, true, true, true, true, true, true, true, false, true, false, false, false, false, false, false, false, false] rfl rfl (take_ofW HT_.out HW_.out (by kernel_rfl)) (fun _ _ _ h => h) (Or.inl ⟨by rfl, ?_⟩) hHeld ?_ ?_
                  rotate_left
                  · intro w' s0
                    (obtain ⟨s0, s1, s2, s3, s4, s5, s6, s7, s8, s9, s10, s11, s12, s13, s14⟩ := s0)
                    go_simp
                    with_reducible rfl
                  rotate_left
                  · simp only [Act.put, List.setIfInBounds_toArray, List.set_cons_zero, List.set_cons_succ, i64_w, i32_w]
                    rfl
                  refine pure_ (i := 30) (N := some 39) (v := ?_) (a' := ?_) #[true, true, true, true, true, true, true, true, true, true, true, true, true, true, true, true, true, true, true, true, true, true, true, true, true, true, true, true, false, true, true, false, false, false, false, false, false, false] rfl rfl (any_of HT_.out (by kernel_rfl)) (fun _ _ _ h => h) (Or.inl ⟨by rfl, ?_⟩) ?_ ?_
                  rotate_left
                  · intro w'
                    go_simp
                    with_reducible rfl
                  rotate_left
                  · simp only [Act.put, List.setIfInBounds_toArray, List.set_cons_zero, List.set_cons_succ, i64_w, i32_w]
                    rfl
                  as_aux_lemma =>
                    refine one_ (i := 28) (N := some 37) #[true, true, true, true, true, true, true, true, true, true, true, true, true, true, true, true, true, true, true, true, true, true, true, true, true, true, true, true, true, true, true, false, false, false, false, false, false, false] rfl rfl (one_of HT_.out (by kernel_rfl)) (by decide) (fun K hK => ?_)
                    refine goes_ Tryz.func27 (by kernel_rfl) rfl #[.agg #[v0, v1, v2, v3, v4, v5, v6, v7, v8, v9, v10, v11, v12, v13, v14], .string s] (by rfl) rfl rfl (by (try simp only [List.map_toArray, List.map_cons, List.map_nil]); first | done | rfl) ?_
                    refine (HP3.out _ HPd.out.arg).mono ?_
                    rintro e wk ⟨rfl, hb⟩
                    have HQ := Aside0.mk (PBR.below HRm.out HPd.out hb)
                    clear HPd hb
                    have HPd := HQ
                    clear HQ
                    refine ⟨_, rfl, hK.out _ _ (pallv HPd.out) (fun hHeld => ?_)⟩
                    clear hK K
                    refine norm_ (a' := ?_) ?_ ?_
                    rotate_left
                    · show Act.put _ (some 37) _ = _
                      simp only [Act.put, List.setIfInBounds_toArray, List.set_cons_zero, List.set_cons_succ, i64_w, i32_w]
                      rfl
                    as_aux_lemma =>
                      refine one_ (i := 31) (N := some 40) #[true, true, true, true, true, true, true, true, true, true, true, true, true, true, true, true, true, true, true, true, true, true, true, true, true, true, true, true, true, true, true, true, false, false, false, false, false, false] rfl rfl (one_of HT_.out (by kernel_rfl)) (by decide) (fun K hK => ?_)
                      refine goes_ Tryz.func28 (by kernel_rfl) rfl #[.agg #[v0, v1, v2, v3, v4, v5, v6, v7, v8, v9, v10, v11, v12, v13, v14], .string s] (by rfl) rfl rfl (by (try simp only [List.map_toArray, List.map_cons, List.map_nil]); first | done | rfl) ?_
                      refine (HQ3.out _ HPd.out.arg).mono ?_
                      rintro e wk ⟨rfl, hb⟩
                      have HQ := Aside0.mk (PBR.below HRm.out HPd.out hb)
                      clear HPd hb
                      have HPd := HQ
                      clear HQ
                      refine ⟨_, rfl, hK.out _ _ (pallv HPd.out) (fun hHeld => ?_)⟩
                      clear hK K
                      refine norm_ (a' := ?_) ?_ ?_
                      rotate_left
                      · show Act.put _ (some 40) _ = _
                        simp only [Act.put, List.setIfInBounds_toArray, List.set_cons_zero, List.set_cons_succ, i64_w, i32_w]
                        rfl
                      refine pure_ (i := 32) (N := some 41) (v := ?_) (a' := ?_) #[true, true, true, true, true, true, true, true, true, true, true, true, true, true, true, true, true, true, true, true, true, true, true, true, true, true, true, true, true, true, true, true, true, false, false, false, false, false] rfl rfl (any_of HT_.out (by kernel_rfl)) (fun _ _ _ h => h) (Or.inl ⟨by rfl, ?_⟩) ?_ ?_
                      rotate_left
                      · intro w'
                        go_simp
                        with_reducible rfl
                      rotate_left
                      · simp only [Act.put, List.setIfInBounds_toArray, List.set_cons_zero, List.set_cons_succ, i64_w, i32_w]
                        rfl
                      refine pure_ (i := 33) (N := some 42) (v := ?_) (a' := ?_) #[true, true, true, true, true, true, true, true, true, true, true, true, true, true, true, true, true, true, true, true, true, true, true, true, true, true, true, true, true, true, true, true, true, true, false, false, false, false] rfl rfl (any_of HT_.out (by kernel_rfl)) (fun _ _ _ h => h) (Or.inl ⟨by rfl, ?_⟩) ?_ ?_
                      rotate_left
                      · intro w'
                        go_simp
                        with_reducible rfl
                      rotate_left
                      · simp only [Act.put, List.setIfInBounds_toArray, List.set_cons_zero, List.set_cons_succ, i64_w, i32_w]
                        rfl
                      refine pure_ (i := 34) (N := some 43) (v := ?_) (a' := ?_) #[true, true, true, true, true, true, true, true, true, true, true, true, true, true, true, true, true, true, true, true, true, true, true, true, true, true, true, true, true, true, true, true, true, true, true, false, false, false] rfl rfl (any_of HT_.out (by kernel_rfl)) (fun _ _ _ h => h) (Or.inl ⟨by rfl, ?_⟩) ?_ ?_
                      rotate_left
                      · intro w'
                        go_simp
                        with_reducible rfl
                      rotate_left
                      · simp only [Act.put, List.setIfInBounds_toArray, List.set_cons_zero, List.set_cons_succ, i64_w, i32_w]
                        rfl
                      as_aux_lemma =>
                        refine one_ (i := 35) (N := some 44) #[true, true, true, true, true, true, true, true, true, true, true, true, true, true, true, true, true, true, true, true, true, true, true, true, true, true, true, true, true, true, true, true, true, true, true, true, false, false] rfl rfl (one_of HT_.out (by kernel_rfl)) (by decide) (fun K hK => ?_)
                        refine goes_ Tryz.func9 (by kernel_rfl) rfl #[] (by rfl) rfl rfl (by (try simp only [List.map_toArray, List.map_cons, List.map_nil]); first | done | rfl) ?_
                        refine (heads_is _).mono ?_
                        rintro e wk ⟨rfl, hb⟩
                        have HQ := Aside0.mk (PBR.below HRm.out HPd.out hb)
                        clear HPd hb
                        have HPd := HQ
                        clear HQ
                        refine ⟨_, rfl, hK.out _ _ (pallv HPd.out) (fun hHeld => ?_)⟩
                        clear hK K
                        refine norm_ (a' := ?_) ?_ ?_
                        rotate_left
                        · show Act.put _ (some 44) _ = _
                          simp only [Act.put, List.setIfInBounds_toArray, List.set_cons_zero, List.set_cons_succ, i64_w, i32_w]
                          rfl
                        refine pure_ (i := 36) (N := some 45) (v := ?_) (a' := ?_) #[true, true, true, true, true, true, true, true, true, true, true, true, true, true, true, true, true, true, true, true, true, true, true, true, true, true, true, true, true, true, true, true, true, true, true, true, true, false] rfl rfl (any_of HT_.out (by kernel_rfl)) (fun _ _ _ h => h) (Or.inl ⟨by rfl, ?_⟩) ?_ ?_
                        rotate_left
                        · intro w'
                          go_simp
                          with_reducible rfl
                        rotate_left
                        · simp only [Act.put, List.setIfInBounds_toArray, List.set_cons_zero, List.set_cons_succ, i64_w, i32_w]
                          rfl
                        refine pure_ (i := 37) (N := some 4) (v := ?_) (a' := ?_) #[true, true, true, true, true, true, true, true, true, true, true, true, true, true, true, true, true, true, true, true, true, true, true, true, true, true, true, true, true, true, true, true, true, true, true, true, true, true] rfl rfl (any_of HT_.out (by kernel_rfl)) (fun _ _ _ h => h) (Or.inl ⟨by rfl, ?_⟩) ?_ ?_
                        rotate_left
                        · intro w'
                          go_simp
                          with_reducible rfl
                        rotate_left
                        · simp only [Act.put, List.setIfInBounds_toArray, List.set_cons_zero, List.set_cons_succ, i64_w, i32_w]
                          rfl
                        refine done_ (done_of HT_.out (by kernel_rfl)) ?_
                        go_wp2
                        go_ret
                        exact ⟨rfl, HPd.out.box.bel⟩
theorem Finds_is (w : World) (p : PV) (a : PA) (s : ByteArray) (h : PRd w p a) :
    Calls Tryz.prog 6 #[.agg (pcs p a), .string s] w fun e w' => e = .returned (.bool true) ∧ Below w.heap.size w w' :=
  Finds_core w (.string p.nm) (.int .i64 p.g0) (.int .i64 p.g1) (.int .i64 p.g2) (.slice a.A4 p.rooms.length a.c4) (.slice a.A5 p.walk.length a.c5) (.slice a.A6 p.persons.length a.c6) (.slice a.A7 p.classes.length a.c7) (.slice a.A8 p.courses.length a.c8) (.slice a.A9 p.students.length a.c9) (.slice a.A10 p.rules.length a.c10) (.int .i64 p.w0) (.int .i64 p.w1) (.int .i64 p.w2) (.int .i64 p.w3) s _ _ _ _ (fun W => PRd W p a) (fun _ _ h hB => h.below hB) h
    (fun W hW => (Few_is W p a hW).mono fun e w' h => ⟨by obtain ⟨⟨b, he, _⟩, _⟩ := h; exact ⟨b, he⟩, h.2⟩)
    (fun W hW => FindRoom_is W p a s hW) (fun W hW => RFindRoom_is W p a s hW)
    (fun W hW => FindPerson_is W p a s hW) (fun W hW => RFindPerson_is W p a s hW)
    (fun W hW => FindClass_is W p a s hW) (fun W hW => RFindClass_is W p a s hW)
    (fun W hW => FindCourse_is W p a s hW) (fun W hW => RFindCourse_is W p a s hW)
end Go.Proofs.YtineikfhfmiidaaGreat.Pm
