import Derived.Deep.Slices
import Derived.Test.YtineikfhfmiidaaGreatPkS1
/- Which room, person, class, course has a name. -/
namespace Go.Proofs.YtineikfhfmiidaaGreat.Pm
open Go Go.RowKit Go.Proofs.YtineikfhfmiidaaGreat.Gp Go.Proofs.YtineikfhfmiidaaGreatW.PrintWords Go.Proofs.YtineikfhfmiidaaGreatW.PrintLast Go.Proofs.YtineikfhfmiidaaGreatW.PrintMore
set_option linter.unusedVariables false
set_option linter.unusedSimpArgs false
/-- The place of the first thing with this name; -1: there is none. -/
def findI {α : Type} (f : α → ByteArray) : List α → ByteArray → Int → Int
  | [], _, _ => -1
  | x :: t, s, n => if (f x).toList = s.toList then n else findI f t s (n + 1)
theorem findI_no {α : Type} (f : α → ByteArray) (s : ByteArray) : ∀ (l : List α) (n : Int), (∀ x, x ∈ l → (f x).toList ≠ s.toList) → findI f l s n = -1
  | [], _, _ => rfl
  | x :: t, n, h => by
    unfold findI
    rw [if_neg (h x List.mem_cons_self)]
    exact findI_no f s t (n + 1) (fun y hy => h y (List.mem_cons_of_mem _ hy))
theorem findI_at {α : Type} (f : α → ByteArray) (s : ByteArray) : ∀ (l : List α) (n : Int) (i : Nat) (x : α), l[i]? = some x → (f x).toList = s.toList → (∀ j y, j < i → l[j]? = some y → (f y).toList ≠ s.toList) → findI f l s n = n + i
  | [], _, i, x, hx, _, _ => by simp at hx
  | y :: t, n, 0, x, hx, he, _ => by
    simp at hx
    subst hx
    unfold findI
    rw [if_pos he]
    simp
  | y :: t, n, i + 1, x, hx, he, hn => by
    unfold findI
    rw [if_neg (hn 0 y (by omega) (by simp))]
    rw [findI_at f s t (n + 1) i x (by simpa using hx) he (fun j z hj hz => hn (j + 1) z (by omega) (by simpa using hz))]
    omega
theorem cl_get {α : Type} {d : Kd α} {w : World} {A : Option Addr} {n : Nat} {xs : List α} (h : d.C w A n xs) {i : Nat} {x : α} (hx : xs[i]? = some x) : ∃ ad cs, A = some ad ∧ d.K w x cs ∧ ∀ j u, cs[j]? = some u → w.cell? (ad.add (i * d.sz + j)) = some u := by
  have hi : i < xs.length := (List.getElem?_eq_some_iff.1 hx).1
  obtain ⟨ad, e, hc⟩ := h.2.2 (by have := h.1; omega)
  obtain ⟨c, _, hK, hcell⟩ := hc i x hx
  exact ⟨ad, c, e, hK, hcell⟩
theorem elRoom {w : World} {A : Option Addr} {n : Nat} {xs : List S47} (h : Kd.C k47 w A n xs) {i : Nat} {x : S47} (hx : xs[i]? = some x) :
    ∃ (ad : Addr) (B3 : Option Addr) (d3 : Nat), A = some ad ∧ w.cell? (ad.add (i * 4)) = some (.string x.f0) ∧ w.cell? ⟨(ad.add (i * 4)).block, (ad.add (i * 4)).off + 1, none⟩ = some (.int .i64 x.f1) ∧ w.cell? ⟨(ad.add (i * 4)).block, (ad.add (i * 4)).off + 2, none⟩ = some (.int .u16 x.f2) ∧ w.cell? ⟨(ad.add (i * 4)).block, (ad.add (i * 4)).off + 3, none⟩ = some (.slice B3 x.f3.length d3) ∧ (Kd.C k50 w B3 x.f3.length x.f3 ∧ x.f3.length ≤ d3) := by
  obtain ⟨ad, cs, e, hK, hc⟩ := cl_get h hx
  obtain ⟨B3, d3, rfl, l3, g3⟩ := k47_open hK
  exact ⟨ad, B3, d3, e, hc 0 _ rfl, show w.cell? ((ad.add (i * 4)).add 1) = _ by rw [Deep.add_add]; exact hc 1 _ rfl, show w.cell? ((ad.add (i * 4)).add 2) = _ by rw [Deep.add_add]; exact hc 2 _ rfl, show w.cell? ((ad.add (i * 4)).add 3) = _ by rw [Deep.add_add]; exact hc 3 _ rfl, ⟨g3, l3⟩⟩
set_option maxRecDepth 100000 in
set_option maxHeartbeats 1000000 in
theorem clRoom (w : World) (x : S47) (B3 : Option Addr) (d3 : Nat) (g3 : Kd.C k50 w B3 x.f3.length x.f3) (l3 : x.f3.length ≤ d3) (fb sb : Nat) (tf ts : TypeId) (s : ByteArray) (hf : w.heap[fb]? = some (.cells #[.func (.func 37) #[] #[]] tf (0, 0))) (hs : w.heap[sb]? = some (.cells #[.string s] ts (0, 0))) :
    Calls Tryz.prog 148 #[.agg #[.string x.f0, .int .i64 x.f1, .int .u16 x.f2, .slice B3 x.f3.length d3], .pointer (some ⟨fb, 0, none⟩), .pointer (some ⟨sb, 0, none⟩)] w fun e w' => e = .returned (.bool (x.f0.toList == s.toList)) ∧ Below w.heap.size w w' := by
  have HF := Aside0.mk hf
  have HS := Aside0.mk hs
  have HG3 := Aside0.mk g3
  have HL3 := Aside0.mk l3
  clear hf hs g3 l3
  have hut := Tryz.underlying47
  go_enter Tryz.func148, Tryz.ntmps148
  go_wp2_with (first
    | ((with_reducible refine gate_dst (N := 3) rfl ?_); refine box_event ?hg (N := 3) ?hd (cs := #[.string x.f0, .int .i64 x.f1, .int .u16 x.f2, .slice B3 x.f3.length d3]) (t := 47) ?hr ?_; (case hd => rfl); (case hg => rfl); (case hr => first | (go_simp; done) | (go_simp; rfl)); intro gx hgx w2 hbox hB; have HX := Aside0.mk (And.intro hbox hB); clear hbox hgx hB))
  have hcf : w2.cell? ⟨fb, 0, none⟩ = some (.func (.func 37) #[] #[]) := pw_cell_below HX.out.2 ((blk_cell HF.out 0).trans rfl)
  have hcs : w2.cell? ⟨sb, 0, none⟩ = some (.string s) := pw_cell_below HX.out.2 ((blk_cell HS.out 0).trans rfl)
  have hc0 : w2.cell? ⟨gx, 0, none⟩ = some (.string x.f0) := (blk_cell HX.out.1 0).trans rfl
  have hc1 : w2.cell? ⟨gx, 1, none⟩ = some (.int .i64 x.f1) := (blk_cell HX.out.1 1).trans rfl
  have hc2 : w2.cell? ⟨gx, 2, none⟩ = some (.int .u16 x.f2) := (blk_cell HX.out.1 2).trans rfl
  have hc3 : w2.cell? ⟨gx, 3, none⟩ = some (.slice B3 x.f3.length d3) := (blk_cell HX.out.1 3).trans rfl
  have HD := Aside0.mk (below_drew HX.out.2)
  go_region_held3 (fun w' => w'.cell? ⟨fb, 0, none⟩ = some (.func (.func 37) #[] #[]) ∧ w'.cell? ⟨sb, 0, none⟩ = some (.string s) ∧ w'.cell? ⟨gx, 0, none⟩ = some (.string x.f0) ∧ w'.cell? ⟨gx, 1, none⟩ = some (.int .i64 x.f1) ∧ w'.cell? ⟨gx, 2, none⟩ = some (.int .u16 x.f2) ∧ w'.cell? ⟨gx, 3, none⟩ = some (.slice B3 x.f3.length d3)) (first | exact ⟨hcf, hcs, hc0, hc1, hc2, hc3⟩) (first
    | (go_at_call 37; refine (problem_roomName.calls _ _ _ _ _ _ x.f0 _ (Kd.C_below HG3.out HD.out) HL3.out rfl).mono ?_; rintro e w3 ⟨rfl, hB⟩; have HB := Aside0.mk hB; clear hB; have hcf2 := pw_cell_below HB.out (show w2.drew.cell? ⟨fb, 0, none⟩ = _ from hcf); have hcs2 := pw_cell_below HB.out (show w2.drew.cell? ⟨sb, 0, none⟩ = _ from hcs); have hx0 := pw_cell_below HB.out (show w2.drew.cell? ⟨gx, 0, none⟩ = _ from hc0); have hx1 := pw_cell_below HB.out (show w2.drew.cell? ⟨gx, 1, none⟩ = _ from hc1); have hx2 := pw_cell_below HB.out (show w2.drew.cell? ⟨gx, 2, none⟩ = _ from hc2); have hx3 := pw_cell_below HB.out (show w2.drew.cell? ⟨gx, 3, none⟩ = _ from hc3); clear hcf hcs hc0 hc1 hc2 hc3; have hcf := hcf2; have hcs := hcs2; have hc0 := hx0; have hc1 := hx1; have hc2 := hx2; have hc3 := hx3))
  go_wp2
  go_ret
  exact ⟨rfl, below_then HD.out HD.out.size HB.out⟩
theorem blk_then {w wr : World} {b : Nat} {o : Obj} (h : w.heap[b]? = some o) (hB : Below w.heap.size w wr) : wr.heap[b]? = some o := (hB.block b (Array.getElem?_eq_some_iff.1 h).1).trans h
set_option maxRecDepth 100000 in
set_option maxHeartbeats 1000000 in
theorem ixRoom (w : World) (A : Option Addr) (m c : Nat) (xs : List S47) (hm : xs.length = m) (hC : Kd.C k47 w A xs.length xs) (fb sb : Nat) (tf ts : TypeId) (s : ByteArray) (hf : w.heap[fb]? = some (.cells #[.func (.func 37) #[] #[]] tf (0, 0))) (hs : w.heap[sb]? = some (.cells #[.string s] ts (0, 0))) :
    Calls Tryz.prog 147 #[.slice A m c, .func (.func 148) #[] #[.pointer (some ⟨fb, 0, none⟩), .pointer (some ⟨sb, 0, none⟩)]] w fun e w' => e = .returned (.int .i64 (findI (fun x => x.f0) xs s 0)) ∧ Below w.heap.size w w' := by
  have HF := Aside0.mk hf
  have HS := Aside0.mk hs
  have HC := Aside0.mk hC
  have HM := Aside0.mk hm
  have hmx := Kd.C_max hC
  rw [hm] at hmx
  clear hf hs hC hm
  go_enter Tryz.func147, Tryz.ntmps147
  go_wp2
  go_loopw [8] (fun v8 wr => ∃ i : Nat, i ≤ m ∧ v8 = .int .i64 i ∧ Aside0 (∀ j y, j < i → xs[j]? = some y → y.f0.toList ≠ s.toList) ∧ Aside0 (Below w.heap.size w wr)) (fun v8 _ => m - (intOf v8).toNat)
  case atStart => exact ⟨0, Nat.zero_le _, rfl, ⟨fun j y hj => by omega⟩, ⟨Below.refl _ _⟩⟩
  case round =>
    obtain ⟨i, hi, rfl, HN, HB⟩ := hrel
    by_cases him : i < m
    · have him2 : (i : Int) < (m : Int) := by omega
      obtain ⟨x, hx⟩ : ∃ x, xs[i]? = some x := ⟨_, List.getElem?_eq_getElem (by have := HM.out; omega)⟩
      obtain ⟨ad, B3, d3, rfl, hk0, hk1, hk2, hk3, ⟨g3, l3⟩⟩ := elRoom (Kd.C_below HC.out HB.out) hx
      have HX := Aside0.mk hx
      have HG3 := Aside0.mk g3
      have HL3 := Aside0.mk l3
      clear hx g3 l3
      cases heq : (x.f0.toList == s.toList) with
      | true =>
        have HE := Aside0.mk heq
        clear heq
        go_wp2_with (first
          | (go_at_call 148; refine (clRoom _ x B3 d3 HG3.out HL3.out fb sb tf ts s (blk_then HF.out HB.out) (blk_then HS.out HB.out)).mono ?_; rintro e w3 ⟨rfl, hB⟩; rw [HE.out]; have HB2 := Aside0.mk (below_then HB.out HB.out.size hB); clear hB))
        go_ret
        rw [findI_at (fun x => x.f0) s xs 0 i x HX.out (by simpa using HE.out) HN.out, Int.zero_add]
        exact ⟨rfl, HB2.out⟩
      | false =>
        have HE := Aside0.mk heq
        clear heq
        go_wp2_with (first
          | (go_at_call 148; refine (clRoom _ x B3 d3 HG3.out HL3.out fb sb tf ts s (blk_then HF.out HB.out) (blk_then HS.out HB.out)).mono ?_; rintro e w3 ⟨rfl, hB⟩; rw [HE.out]; have HB2 := Aside0.mk (below_then HB.out HB.out.size hB); clear hB))
        exact ⟨⟨i + 1, by omega, by go_num, ⟨fun j y hj hy => by
          by_cases e : j = i
          · subst e
            rw [HX.out] at hy
            cases hy
            simpa using HE.out
          · exact HN.out j y (by omega) hy⟩, HB2⟩, by simp [intOf]; omega⟩
    · obtain rfl : i = m := by omega
      go_wp2
      go_ret
      rw [findI_no (fun x => x.f0) s xs 0 (fun x hx => by
        obtain ⟨j, hj, rfl⟩ := List.getElem_of_mem hx
        exact HN.out j _ (by have := HM.out; omega) (List.getElem?_eq_getElem hj))]
      exact ⟨rfl, HB.out⟩
set_option maxRecDepth 100000 in
theorem plRoom (w : World) (A : Option Addr) (m c : Nat) (xs : List S47) (hm : xs.length = m) (hC : Kd.C k47 w A xs.length xs) (s : ByteArray) :
    Calls Tryz.prog 108 #[.slice A m c, .func (.func 37) #[] #[], .string s] w fun e w' => e = .returned (.int .i64 (findI (fun x => x.f0) xs s 0)) ∧ Below w.heap.size w w' := by
  have HC := Aside0.mk hC
  have HM := Aside0.mk hm
  clear hC hm
  go_enter Tryz.func108, Tryz.ntmps108
  go_wp2_with (first
    | ((with_reducible refine gate_dst (N := 4) rfl ?_); refine box_event ?hg (N := 4) ?hd (cs := #[.func (.func 37) #[] #[]]) (t := 83) ?hr ?_; (case hd => rfl); (case hg => rfl); (case hr => first | (go_simp; done) | (go_simp; rfl)); intro fb hfb w2 hbox hB; have HF := Aside0.mk hbox; have HB := Aside0.mk hB; clear hbox hfb hB)
    | ((with_reducible refine gate_dst (N := 5) rfl ?_); refine box_event ?hg (N := 5) ?hd (cs := #[.string s]) (t := 9) ?hr ?_; (case hd => rfl); (case hg => rfl); (case hr => first | (go_simp; done) | (go_simp; rfl)); intro sb hsb w3 hbox hB; have HF2 := Aside0.mk (blk_then HF.out hB); have HS := Aside0.mk hbox; have HB2 := Aside0.mk (below_then HB.out HB.out.size hB); clear hbox hsb hB HB HF)
    | (go_at_call 147; refine (ixRoom _ A m c xs HM.out (Kd.C_below HC.out HB2.out) fb sb _ _ s HF2.out HS.out).mono ?_; rintro e w4 ⟨rfl, hB⟩; have HB3 := Aside0.mk (below_then HB2.out HB2.out.size hB); clear hB))
  go_ret
  exact ⟨rfl, HB3.out⟩
set_option maxRecDepth 100000 in
theorem FindRoom_is (w : World) (p : PV) (a : PA) (s : ByteArray) (h : PRd w p a) :
    Calls Tryz.prog 21 #[.agg (pcs p a), .string s] w fun e w' => e = .returned (.int .i64 (findI (fun x => x.f0) p.rooms s 0)) ∧ Below w.heap.size w w' := by
  have H := Aside0.mk h
  clear h
  have hu := Tryz.underlying34
  go_enter Tryz.func21, Tryz.ntmps21
  go_wp2_with (first
    | ((with_reducible refine gate_dst (N := 2) rfl ?_); refine box_event ?hg (N := 2) ?hd (cs := pcs p a) (t := 34) ?hr ?_; (case hd => rfl); (case hg => rfl); (case hr => first | (go_simp; done) | (go_simp; rfl)); intro g hg w2 hbox hB; have hcell : w2.cell? ⟨g, 4, none⟩ = some (.slice a.A4 p.rooms.length a.c4) := (blk_cell hbox 4).trans rfl; have HB := Aside0.mk hB; clear hbox hg hB)
    | (go_at_call 108; refine (plRoom _ a.A4 p.rooms.length a.c4 p.rooms rfl (Kd.C_below H.out.r4 HB.out) s).mono ?_; rintro e w4 ⟨rfl, hB⟩; have HB3 := Aside0.mk (below_then HB.out HB.out.size hB); clear hB))
  go_ret
  exact ⟨rfl, HB3.out⟩
theorem elPerson {w : World} {A : Option Addr} {n : Nat} {xs : List S53} (h : Kd.C k53 w A n xs) {i : Nat} {x : S53} (hx : xs[i]? = some x) :
    ∃ (ad : Addr) (B1 : Option Addr) (d1 : Nat), A = some ad ∧ w.cell? (ad.add (i * 2)) = some (.string x.f0) ∧ w.cell? ⟨(ad.add (i * 2)).block, (ad.add (i * 2)).off + 1, none⟩ = some (.slice B1 x.f1.length d1) ∧ (Kd.C k50 w B1 x.f1.length x.f1 ∧ x.f1.length ≤ d1) := by
  obtain ⟨ad, cs, e, hK, hc⟩ := cl_get h hx
  obtain ⟨B1, d1, rfl, l1, g1⟩ := k53_open hK
  exact ⟨ad, B1, d1, e, hc 0 _ rfl, show w.cell? ((ad.add (i * 2)).add 1) = _ by rw [Deep.add_add]; exact hc 1 _ rfl, ⟨g1, l1⟩⟩
set_option maxRecDepth 100000 in
set_option maxHeartbeats 1000000 in
theorem clPerson (w : World) (x : S53) (B1 : Option Addr) (d1 : Nat) (g1 : Kd.C k50 w B1 x.f1.length x.f1) (l1 : x.f1.length ≤ d1) (fb sb : Nat) (tf ts : TypeId) (s : ByteArray) (hf : w.heap[fb]? = some (.cells #[.func (.func 42) #[] #[]] tf (0, 0))) (hs : w.heap[sb]? = some (.cells #[.string s] ts (0, 0))) :
    Calls Tryz.prog 150 #[.agg #[.string x.f0, .slice B1 x.f1.length d1], .pointer (some ⟨fb, 0, none⟩), .pointer (some ⟨sb, 0, none⟩)] w fun e w' => e = .returned (.bool (x.f0.toList == s.toList)) ∧ Below w.heap.size w w' := by
  have HF := Aside0.mk hf
  have HS := Aside0.mk hs
  have HG1 := Aside0.mk g1
  have HL1 := Aside0.mk l1
  clear hf hs g1 l1
  have hut := Tryz.underlying53
  go_enter Tryz.func150, Tryz.ntmps150
  go_wp2_with (first
    | ((with_reducible refine gate_dst (N := 3) rfl ?_); refine box_event ?hg (N := 3) ?hd (cs := #[.string x.f0, .slice B1 x.f1.length d1]) (t := 53) ?hr ?_; (case hd => rfl); (case hg => rfl); (case hr => first | (go_simp; done) | (go_simp; rfl)); intro gx hgx w2 hbox hB; have HX := Aside0.mk (And.intro hbox hB); clear hbox hgx hB))
  have hcf : w2.cell? ⟨fb, 0, none⟩ = some (.func (.func 42) #[] #[]) := pw_cell_below HX.out.2 ((blk_cell HF.out 0).trans rfl)
  have hcs : w2.cell? ⟨sb, 0, none⟩ = some (.string s) := pw_cell_below HX.out.2 ((blk_cell HS.out 0).trans rfl)
  have hc0 : w2.cell? ⟨gx, 0, none⟩ = some (.string x.f0) := (blk_cell HX.out.1 0).trans rfl
  have hc1 : w2.cell? ⟨gx, 1, none⟩ = some (.slice B1 x.f1.length d1) := (blk_cell HX.out.1 1).trans rfl
  have HD := Aside0.mk (below_drew HX.out.2)
  go_region_held3 (fun w' => w'.cell? ⟨fb, 0, none⟩ = some (.func (.func 42) #[] #[]) ∧ w'.cell? ⟨sb, 0, none⟩ = some (.string s) ∧ w'.cell? ⟨gx, 0, none⟩ = some (.string x.f0) ∧ w'.cell? ⟨gx, 1, none⟩ = some (.slice B1 x.f1.length d1)) (first | exact ⟨hcf, hcs, hc0, hc1⟩) (first
    | (go_at_call 42; refine (problem_personName.calls _ _ _ _ x.f0 _ (Kd.C_below HG1.out HD.out) HL1.out rfl).mono ?_; rintro e w3 ⟨rfl, hB⟩; have HB := Aside0.mk hB; clear hB; have hcf2 := pw_cell_below HB.out (show w2.drew.cell? ⟨fb, 0, none⟩ = _ from hcf); have hcs2 := pw_cell_below HB.out (show w2.drew.cell? ⟨sb, 0, none⟩ = _ from hcs); have hx0 := pw_cell_below HB.out (show w2.drew.cell? ⟨gx, 0, none⟩ = _ from hc0); have hx1 := pw_cell_below HB.out (show w2.drew.cell? ⟨gx, 1, none⟩ = _ from hc1); clear hcf hcs hc0 hc1; have hcf := hcf2; have hcs := hcs2; have hc0 := hx0; have hc1 := hx1))
  go_wp2
  go_ret
  exact ⟨rfl, below_then HD.out HD.out.size HB.out⟩
set_option maxRecDepth 100000 in
set_option maxHeartbeats 1000000 in
theorem ixPerson (w : World) (A : Option Addr) (m c : Nat) (xs : List S53) (hm : xs.length = m) (hC : Kd.C k53 w A xs.length xs) (fb sb : Nat) (tf ts : TypeId) (s : ByteArray) (hf : w.heap[fb]? = some (.cells #[.func (.func 42) #[] #[]] tf (0, 0))) (hs : w.heap[sb]? = some (.cells #[.string s] ts (0, 0))) :
    Calls Tryz.prog 149 #[.slice A m c, .func (.func 150) #[] #[.pointer (some ⟨fb, 0, none⟩), .pointer (some ⟨sb, 0, none⟩)]] w fun e w' => e = .returned (.int .i64 (findI (fun x => x.f0) xs s 0)) ∧ Below w.heap.size w w' := by
  have HF := Aside0.mk hf
  have HS := Aside0.mk hs
  have HC := Aside0.mk hC
  have HM := Aside0.mk hm
  have hmx := Kd.C_max hC
  rw [hm] at hmx
  clear hf hs hC hm
  go_enter Tryz.func149, Tryz.ntmps149
  go_wp2
  go_loopw [8] (fun v8 wr => ∃ i : Nat, i ≤ m ∧ v8 = .int .i64 i ∧ Aside0 (∀ j y, j < i → xs[j]? = some y → y.f0.toList ≠ s.toList) ∧ Aside0 (Below w.heap.size w wr)) (fun v8 _ => m - (intOf v8).toNat)
  case atStart => exact ⟨0, Nat.zero_le _, rfl, ⟨fun j y hj => by omega⟩, ⟨Below.refl _ _⟩⟩
  case round =>
    obtain ⟨i, hi, rfl, HN, HB⟩ := hrel
    by_cases him : i < m
    · have him2 : (i : Int) < (m : Int) := by omega
      obtain ⟨x, hx⟩ : ∃ x, xs[i]? = some x := ⟨_, List.getElem?_eq_getElem (by have := HM.out; omega)⟩
      obtain ⟨ad, B1, d1, rfl, hk0, hk1, ⟨g1, l1⟩⟩ := elPerson (Kd.C_below HC.out HB.out) hx
      have HX := Aside0.mk hx
      have HG1 := Aside0.mk g1
      have HL1 := Aside0.mk l1
      clear hx g1 l1
      cases heq : (x.f0.toList == s.toList) with
      | true =>
        have HE := Aside0.mk heq
        clear heq
        go_wp2_with (first
          | (go_at_call 150; refine (clPerson _ x B1 d1 HG1.out HL1.out fb sb tf ts s (blk_then HF.out HB.out) (blk_then HS.out HB.out)).mono ?_; rintro e w3 ⟨rfl, hB⟩; rw [HE.out]; have HB2 := Aside0.mk (below_then HB.out HB.out.size hB); clear hB))
        go_ret
        rw [findI_at (fun x => x.f0) s xs 0 i x HX.out (by simpa using HE.out) HN.out, Int.zero_add]
        exact ⟨rfl, HB2.out⟩
      | false =>
        have HE := Aside0.mk heq
        clear heq
        go_wp2_with (first
          | (go_at_call 150; refine (clPerson _ x B1 d1 HG1.out HL1.out fb sb tf ts s (blk_then HF.out HB.out) (blk_then HS.out HB.out)).mono ?_; rintro e w3 ⟨rfl, hB⟩; rw [HE.out]; have HB2 := Aside0.mk (below_then HB.out HB.out.size hB); clear hB))
        exact ⟨⟨i + 1, by omega, by go_num, ⟨fun j y hj hy => by
          by_cases e : j = i
          · subst e
            rw [HX.out] at hy
            cases hy
            simpa using HE.out
          · exact HN.out j y (by omega) hy⟩, HB2⟩, by simp [intOf]; omega⟩
    · obtain rfl : i = m := by omega
      go_wp2
      go_ret
      rw [findI_no (fun x => x.f0) s xs 0 (fun x hx => by
        obtain ⟨j, hj, rfl⟩ := List.getElem_of_mem hx
        exact HN.out j _ (by have := HM.out; omega) (List.getElem?_eq_getElem hj))]
      exact ⟨rfl, HB.out⟩
set_option maxRecDepth 100000 in
theorem plPerson (w : World) (A : Option Addr) (m c : Nat) (xs : List S53) (hm : xs.length = m) (hC : Kd.C k53 w A xs.length xs) (s : ByteArray) :
    Calls Tryz.prog 109 #[.slice A m c, .func (.func 42) #[] #[], .string s] w fun e w' => e = .returned (.int .i64 (findI (fun x => x.f0) xs s 0)) ∧ Below w.heap.size w w' := by
  have HC := Aside0.mk hC
  have HM := Aside0.mk hm
  clear hC hm
  go_enter Tryz.func109, Tryz.ntmps109
  go_wp2_with (first
    | ((with_reducible refine gate_dst (N := 4) rfl ?_); refine box_event ?hg (N := 4) ?hd (cs := #[.func (.func 42) #[] #[]]) (t := 88) ?hr ?_; (case hd => rfl); (case hg => rfl); (case hr => first | (go_simp; done) | (go_simp; rfl)); intro fb hfb w2 hbox hB; have HF := Aside0.mk hbox; have HB := Aside0.mk hB; clear hbox hfb hB)
    | ((with_reducible refine gate_dst (N := 5) rfl ?_); refine box_event ?hg (N := 5) ?hd (cs := #[.string s]) (t := 9) ?hr ?_; (case hd => rfl); (case hg => rfl); (case hr => first | (go_simp; done) | (go_simp; rfl)); intro sb hsb w3 hbox hB; have HF2 := Aside0.mk (blk_then HF.out hB); have HS := Aside0.mk hbox; have HB2 := Aside0.mk (below_then HB.out HB.out.size hB); clear hbox hsb hB HB HF)
    | (go_at_call 149; refine (ixPerson _ A m c xs HM.out (Kd.C_below HC.out HB2.out) fb sb _ _ s HF2.out HS.out).mono ?_; rintro e w4 ⟨rfl, hB⟩; have HB3 := Aside0.mk (below_then HB2.out HB2.out.size hB); clear hB))
  go_ret
  exact ⟨rfl, HB3.out⟩
set_option maxRecDepth 100000 in
theorem FindPerson_is (w : World) (p : PV) (a : PA) (s : ByteArray) (h : PRd w p a) :
    Calls Tryz.prog 23 #[.agg (pcs p a), .string s] w fun e w' => e = .returned (.int .i64 (findI (fun x => x.f0) p.persons s 0)) ∧ Below w.heap.size w w' := by
  have H := Aside0.mk h
  clear h
  have hu := Tryz.underlying34
  go_enter Tryz.func23, Tryz.ntmps23
  go_wp2_with (first
    | ((with_reducible refine gate_dst (N := 2) rfl ?_); refine box_event ?hg (N := 2) ?hd (cs := pcs p a) (t := 34) ?hr ?_; (case hd => rfl); (case hg => rfl); (case hr => first | (go_simp; done) | (go_simp; rfl)); intro g hg w2 hbox hB; have hcell : w2.cell? ⟨g, 6, none⟩ = some (.slice a.A6 p.persons.length a.c6) := (blk_cell hbox 6).trans rfl; have HB := Aside0.mk hB; clear hbox hg hB)
    | (go_at_call 109; refine (plPerson _ a.A6 p.persons.length a.c6 p.persons rfl (Kd.C_below H.out.r6 HB.out) s).mono ?_; rintro e w4 ⟨rfl, hB⟩; have HB3 := Aside0.mk (below_then HB.out HB.out.size hB); clear hB))
  go_ret
  exact ⟨rfl, HB3.out⟩
theorem elClass {w : World} {A : Option Addr} {n : Nat} {xs : List S58} (h : Kd.C k58 w A n xs) {i : Nat} {x : S58} (hx : xs[i]? = some x) :
    ∃ (ad : Addr) (B3 : Option Addr) (d3 : Nat) (B4 : Option Addr) (d4 : Nat) (B5 : Option Addr) (d5 : Nat), A = some ad ∧ w.cell? (ad.add (i * 7)) = some (.string x.f0) ∧ w.cell? ⟨(ad.add (i * 7)).block, (ad.add (i * 7)).off + 1, none⟩ = some (.int .i64 x.f1) ∧ w.cell? ⟨(ad.add (i * 7)).block, (ad.add (i * 7)).off + 2, none⟩ = some (.int .u16 x.f2) ∧ w.cell? ⟨(ad.add (i * 7)).block, (ad.add (i * 7)).off + 3, none⟩ = some (.slice B3 x.f3.length d3) ∧ w.cell? ⟨(ad.add (i * 7)).block, (ad.add (i * 7)).off + 4, none⟩ = some (.slice B4 x.f4.length d4) ∧ w.cell? ⟨(ad.add (i * 7)).block, (ad.add (i * 7)).off + 5, none⟩ = some (.slice B5 x.f5.length d5) ∧ w.cell? ⟨(ad.add (i * 7)).block, (ad.add (i * 7)).off + 6, none⟩ = some (.int .i64 x.f6) ∧ (Kd.C (Kd.int .i64) w B3 x.f3.length x.f3 ∧ x.f3.length ≤ d3) ∧ (Kd.C k117 w B4 x.f4.length x.f4 ∧ x.f4.length ≤ d4) ∧ (Kd.C k120 w B5 x.f5.length x.f5 ∧ x.f5.length ≤ d5) := by
  obtain ⟨ad, cs, e, hK, hc⟩ := cl_get h hx
  obtain ⟨B3, d3, B4, d4, B5, d5, rfl, l3, g3, l4, g4, l5, g5⟩ := k58_open hK
  exact ⟨ad, B3, d3, B4, d4, B5, d5, e, hc 0 _ rfl, show w.cell? ((ad.add (i * 7)).add 1) = _ by rw [Deep.add_add]; exact hc 1 _ rfl, show w.cell? ((ad.add (i * 7)).add 2) = _ by rw [Deep.add_add]; exact hc 2 _ rfl, show w.cell? ((ad.add (i * 7)).add 3) = _ by rw [Deep.add_add]; exact hc 3 _ rfl, show w.cell? ((ad.add (i * 7)).add 4) = _ by rw [Deep.add_add]; exact hc 4 _ rfl, show w.cell? ((ad.add (i * 7)).add 5) = _ by rw [Deep.add_add]; exact hc 5 _ rfl, show w.cell? ((ad.add (i * 7)).add 6) = _ by rw [Deep.add_add]; exact hc 6 _ rfl, ⟨g3, l3⟩, ⟨g4, l4⟩, ⟨g5, l5⟩⟩
set_option maxRecDepth 100000 in
set_option maxHeartbeats 1000000 in
theorem clClass (w : World) (x : S58) (B3 : Option Addr) (d3 : Nat) (B4 : Option Addr) (d4 : Nat) (B5 : Option Addr) (d5 : Nat) (g3 : Kd.C (Kd.int .i64) w B3 x.f3.length x.f3) (l3 : x.f3.length ≤ d3) (g4 : Kd.C k117 w B4 x.f4.length x.f4) (l4 : x.f4.length ≤ d4) (g5 : Kd.C k120 w B5 x.f5.length x.f5) (l5 : x.f5.length ≤ d5) (fb sb : Nat) (tf ts : TypeId) (s : ByteArray) (hf : w.heap[fb]? = some (.cells #[.func (.func 46) #[] #[]] tf (0, 0))) (hs : w.heap[sb]? = some (.cells #[.string s] ts (0, 0))) :
    Calls Tryz.prog 152 #[.agg #[.string x.f0, .int .i64 x.f1, .int .u16 x.f2, .slice B3 x.f3.length d3, .slice B4 x.f4.length d4, .slice B5 x.f5.length d5, .int .i64 x.f6], .pointer (some ⟨fb, 0, none⟩), .pointer (some ⟨sb, 0, none⟩)] w fun e w' => e = .returned (.bool (x.f0.toList == s.toList)) ∧ Below w.heap.size w w' := by
  have HF := Aside0.mk hf
  have HS := Aside0.mk hs
  have HG3 := Aside0.mk g3
  have HL3 := Aside0.mk l3
  have HG4 := Aside0.mk g4
  have HL4 := Aside0.mk l4
  have HG5 := Aside0.mk g5
  have HL5 := Aside0.mk l5
  clear hf hs g3 l3 g4 l4 g5 l5
  have hut := Tryz.underlying58
  go_enter Tryz.func152, Tryz.ntmps152
  go_wp2_with (first
    | ((with_reducible refine gate_dst (N := 3) rfl ?_); refine box_event ?hg (N := 3) ?hd (cs := #[.string x.f0, .int .i64 x.f1, .int .u16 x.f2, .slice B3 x.f3.length d3, .slice B4 x.f4.length d4, .slice B5 x.f5.length d5, .int .i64 x.f6]) (t := 58) ?hr ?_; (case hd => rfl); (case hg => rfl); (case hr => first | (go_simp; done) | (go_simp; rfl)); intro gx hgx w2 hbox hB; have HX := Aside0.mk (And.intro hbox hB); clear hbox hgx hB))
  have hcf : w2.cell? ⟨fb, 0, none⟩ = some (.func (.func 46) #[] #[]) := pw_cell_below HX.out.2 ((blk_cell HF.out 0).trans rfl)
  have hcs : w2.cell? ⟨sb, 0, none⟩ = some (.string s) := pw_cell_below HX.out.2 ((blk_cell HS.out 0).trans rfl)
  have hc0 : w2.cell? ⟨gx, 0, none⟩ = some (.string x.f0) := (blk_cell HX.out.1 0).trans rfl
  have hc1 : w2.cell? ⟨gx, 1, none⟩ = some (.int .i64 x.f1) := (blk_cell HX.out.1 1).trans rfl
  have hc2 : w2.cell? ⟨gx, 2, none⟩ = some (.int .u16 x.f2) := (blk_cell HX.out.1 2).trans rfl
  have hc3 : w2.cell? ⟨gx, 3, none⟩ = some (.slice B3 x.f3.length d3) := (blk_cell HX.out.1 3).trans rfl
  have hc4 : w2.cell? ⟨gx, 4, none⟩ = some (.slice B4 x.f4.length d4) := (blk_cell HX.out.1 4).trans rfl
  have hc5 : w2.cell? ⟨gx, 5, none⟩ = some (.slice B5 x.f5.length d5) := (blk_cell HX.out.1 5).trans rfl
  have hc6 : w2.cell? ⟨gx, 6, none⟩ = some (.int .i64 x.f6) := (blk_cell HX.out.1 6).trans rfl
  have HD := Aside0.mk (below_drew HX.out.2)
  go_region_held3 (fun w' => w'.cell? ⟨fb, 0, none⟩ = some (.func (.func 46) #[] #[]) ∧ w'.cell? ⟨sb, 0, none⟩ = some (.string s) ∧ w'.cell? ⟨gx, 0, none⟩ = some (.string x.f0) ∧ w'.cell? ⟨gx, 1, none⟩ = some (.int .i64 x.f1) ∧ w'.cell? ⟨gx, 2, none⟩ = some (.int .u16 x.f2) ∧ w'.cell? ⟨gx, 3, none⟩ = some (.slice B3 x.f3.length d3) ∧ w'.cell? ⟨gx, 4, none⟩ = some (.slice B4 x.f4.length d4) ∧ w'.cell? ⟨gx, 5, none⟩ = some (.slice B5 x.f5.length d5) ∧ w'.cell? ⟨gx, 6, none⟩ = some (.int .i64 x.f6)) (first | exact ⟨hcf, hcs, hc0, hc1, hc2, hc3, hc4, hc5, hc6⟩) (first
    | (go_at_call 46; refine (problem_className.calls _ _ _ _ _ _ _ _ _ _ _ _ _ x.f0 _ (Kd.C_below HG3.out HD.out) HL3.out (Kd.C_below HG4.out HD.out) HL4.out (Kd.C_below HG5.out HD.out) HL5.out rfl).mono ?_; rintro e w3 ⟨rfl, hB⟩; have HB := Aside0.mk hB; clear hB; have hcf2 := pw_cell_below HB.out (show w2.drew.cell? ⟨fb, 0, none⟩ = _ from hcf); have hcs2 := pw_cell_below HB.out (show w2.drew.cell? ⟨sb, 0, none⟩ = _ from hcs); have hx0 := pw_cell_below HB.out (show w2.drew.cell? ⟨gx, 0, none⟩ = _ from hc0); have hx1 := pw_cell_below HB.out (show w2.drew.cell? ⟨gx, 1, none⟩ = _ from hc1); have hx2 := pw_cell_below HB.out (show w2.drew.cell? ⟨gx, 2, none⟩ = _ from hc2); have hx3 := pw_cell_below HB.out (show w2.drew.cell? ⟨gx, 3, none⟩ = _ from hc3); have hx4 := pw_cell_below HB.out (show w2.drew.cell? ⟨gx, 4, none⟩ = _ from hc4); have hx5 := pw_cell_below HB.out (show w2.drew.cell? ⟨gx, 5, none⟩ = _ from hc5); have hx6 := pw_cell_below HB.out (show w2.drew.cell? ⟨gx, 6, none⟩ = _ from hc6); clear hcf hcs hc0 hc1 hc2 hc3 hc4 hc5 hc6; have hcf := hcf2; have hcs := hcs2; have hc0 := hx0; have hc1 := hx1; have hc2 := hx2; have hc3 := hx3; have hc4 := hx4; have hc5 := hx5; have hc6 := hx6))
  go_wp2
  go_ret
  exact ⟨rfl, below_then HD.out HD.out.size HB.out⟩
set_option maxRecDepth 100000 in
set_option maxHeartbeats 1000000 in
theorem ixClass (w : World) (A : Option Addr) (m c : Nat) (xs : List S58) (hm : xs.length = m) (hC : Kd.C k58 w A xs.length xs) (fb sb : Nat) (tf ts : TypeId) (s : ByteArray) (hf : w.heap[fb]? = some (.cells #[.func (.func 46) #[] #[]] tf (0, 0))) (hs : w.heap[sb]? = some (.cells #[.string s] ts (0, 0))) :
    Calls Tryz.prog 151 #[.slice A m c, .func (.func 152) #[] #[.pointer (some ⟨fb, 0, none⟩), .pointer (some ⟨sb, 0, none⟩)]] w fun e w' => e = .returned (.int .i64 (findI (fun x => x.f0) xs s 0)) ∧ Below w.heap.size w w' := by
  have HF := Aside0.mk hf
  have HS := Aside0.mk hs
  have HC := Aside0.mk hC
  have HM := Aside0.mk hm
  have hmx := Kd.C_max hC
  rw [hm] at hmx
  clear hf hs hC hm
  go_enter Tryz.func151, Tryz.ntmps151
  go_wp2
  go_loopw [8] (fun v8 wr => ∃ i : Nat, i ≤ m ∧ v8 = .int .i64 i ∧ Aside0 (∀ j y, j < i → xs[j]? = some y → y.f0.toList ≠ s.toList) ∧ Aside0 (Below w.heap.size w wr)) (fun v8 _ => m - (intOf v8).toNat)
  case atStart => exact ⟨0, Nat.zero_le _, rfl, ⟨fun j y hj => by omega⟩, ⟨Below.refl _ _⟩⟩
  case round =>
    obtain ⟨i, hi, rfl, HN, HB⟩ := hrel
    by_cases him : i < m
    · have him2 : (i : Int) < (m : Int) := by omega
      obtain ⟨x, hx⟩ : ∃ x, xs[i]? = some x := ⟨_, List.getElem?_eq_getElem (by have := HM.out; omega)⟩
      obtain ⟨ad, B3, d3, B4, d4, B5, d5, rfl, hk0, hk1, hk2, hk3, hk4, hk5, hk6, ⟨g3, l3⟩, ⟨g4, l4⟩, ⟨g5, l5⟩⟩ := elClass (Kd.C_below HC.out HB.out) hx
      have HX := Aside0.mk hx
      have HG3 := Aside0.mk g3
      have HL3 := Aside0.mk l3
      have HG4 := Aside0.mk g4
      have HL4 := Aside0.mk l4
      have HG5 := Aside0.mk g5
      have HL5 := Aside0.mk l5
      clear hx g3 l3 g4 l4 g5 l5
      cases heq : (x.f0.toList == s.toList) with
      | true =>
        have HE := Aside0.mk heq
        clear heq
        go_wp2_with (first
          | (go_at_call 152; refine (clClass _ x B3 d3 B4 d4 B5 d5 HG3.out HL3.out HG4.out HL4.out HG5.out HL5.out fb sb tf ts s (blk_then HF.out HB.out) (blk_then HS.out HB.out)).mono ?_; rintro e w3 ⟨rfl, hB⟩; rw [HE.out]; have HB2 := Aside0.mk (below_then HB.out HB.out.size hB); clear hB))
        go_ret
        rw [findI_at (fun x => x.f0) s xs 0 i x HX.out (by simpa using HE.out) HN.out, Int.zero_add]
        exact ⟨rfl, HB2.out⟩
      | false =>
        have HE := Aside0.mk heq
        clear heq
        go_wp2_with (first
          | (go_at_call 152; refine (clClass _ x B3 d3 B4 d4 B5 d5 HG3.out HL3.out HG4.out HL4.out HG5.out HL5.out fb sb tf ts s (blk_then HF.out HB.out) (blk_then HS.out HB.out)).mono ?_; rintro e w3 ⟨rfl, hB⟩; rw [HE.out]; have HB2 := Aside0.mk (below_then HB.out HB.out.size hB); clear hB))
        exact ⟨⟨i + 1, by omega, by go_num, ⟨fun j y hj hy => by
          by_cases e : j = i
          · subst e
            rw [HX.out] at hy
            cases hy
            simpa using HE.out
          · exact HN.out j y (by omega) hy⟩, HB2⟩, by simp [intOf]; omega⟩
    · obtain rfl : i = m := by omega
      go_wp2
      go_ret
      rw [findI_no (fun x => x.f0) s xs 0 (fun x hx => by
        obtain ⟨j, hj, rfl⟩ := List.getElem_of_mem hx
        exact HN.out j _ (by have := HM.out; omega) (List.getElem?_eq_getElem hj))]
      exact ⟨rfl, HB.out⟩
set_option maxRecDepth 100000 in
theorem plClass (w : World) (A : Option Addr) (m c : Nat) (xs : List S58) (hm : xs.length = m) (hC : Kd.C k58 w A xs.length xs) (s : ByteArray) :
    Calls Tryz.prog 110 #[.slice A m c, .func (.func 46) #[] #[], .string s] w fun e w' => e = .returned (.int .i64 (findI (fun x => x.f0) xs s 0)) ∧ Below w.heap.size w w' := by
  have HC := Aside0.mk hC
  have HM := Aside0.mk hm
  clear hC hm
  go_enter Tryz.func110, Tryz.ntmps110
  go_wp2_with (first
    | ((with_reducible refine gate_dst (N := 4) rfl ?_); refine box_event ?hg (N := 4) ?hd (cs := #[.func (.func 46) #[] #[]]) (t := 92) ?hr ?_; (case hd => rfl); (case hg => rfl); (case hr => first | (go_simp; done) | (go_simp; rfl)); intro fb hfb w2 hbox hB; have HF := Aside0.mk hbox; have HB := Aside0.mk hB; clear hbox hfb hB)
    | ((with_reducible refine gate_dst (N := 5) rfl ?_); refine box_event ?hg (N := 5) ?hd (cs := #[.string s]) (t := 9) ?hr ?_; (case hd => rfl); (case hg => rfl); (case hr => first | (go_simp; done) | (go_simp; rfl)); intro sb hsb w3 hbox hB; have HF2 := Aside0.mk (blk_then HF.out hB); have HS := Aside0.mk hbox; have HB2 := Aside0.mk (below_then HB.out HB.out.size hB); clear hbox hsb hB HB HF)
    | (go_at_call 151; refine (ixClass _ A m c xs HM.out (Kd.C_below HC.out HB2.out) fb sb _ _ s HF2.out HS.out).mono ?_; rintro e w4 ⟨rfl, hB⟩; have HB3 := Aside0.mk (below_then HB2.out HB2.out.size hB); clear hB))
  go_ret
  exact ⟨rfl, HB3.out⟩
set_option maxRecDepth 100000 in
theorem FindClass_is (w : World) (p : PV) (a : PA) (s : ByteArray) (h : PRd w p a) :
    Calls Tryz.prog 25 #[.agg (pcs p a), .string s] w fun e w' => e = .returned (.int .i64 (findI (fun x => x.f0) p.classes s 0)) ∧ Below w.heap.size w w' := by
  have H := Aside0.mk h
  clear h
  have hu := Tryz.underlying34
  go_enter Tryz.func25, Tryz.ntmps25
  go_wp2_with (first
    | ((with_reducible refine gate_dst (N := 2) rfl ?_); refine box_event ?hg (N := 2) ?hd (cs := pcs p a) (t := 34) ?hr ?_; (case hd => rfl); (case hg => rfl); (case hr => first | (go_simp; done) | (go_simp; rfl)); intro g hg w2 hbox hB; have hcell : w2.cell? ⟨g, 7, none⟩ = some (.slice a.A7 p.classes.length a.c7) := (blk_cell hbox 7).trans rfl; have HB := Aside0.mk hB; clear hbox hg hB)
    | (go_at_call 110; refine (plClass _ a.A7 p.classes.length a.c7 p.classes rfl (Kd.C_below H.out.r7 HB.out) s).mono ?_; rintro e w4 ⟨rfl, hB⟩; have HB3 := Aside0.mk (below_then HB.out HB.out.size hB); clear hB))
  go_ret
  exact ⟨rfl, HB3.out⟩
theorem elCourse {w : World} {A : Option Addr} {n : Nat} {xs : List S61} (h : Kd.C k61 w A n xs) {i : Nat} {x : S61} (hx : xs[i]? = some x) :
    ∃ (ad : Addr) (B1 : Option Addr) (d1 : Nat), A = some ad ∧ w.cell? (ad.add (i * 2)) = some (.string x.f0) ∧ w.cell? ⟨(ad.add (i * 2)).block, (ad.add (i * 2)).off + 1, none⟩ = some (.slice B1 x.f1.length d1) ∧ (Kd.C k63 w B1 x.f1.length x.f1 ∧ x.f1.length ≤ d1) := by
  obtain ⟨ad, cs, e, hK, hc⟩ := cl_get h hx
  obtain ⟨B1, d1, rfl, l1, g1⟩ := k61_open hK
  exact ⟨ad, B1, d1, e, hc 0 _ rfl, show w.cell? ((ad.add (i * 2)).add 1) = _ by rw [Deep.add_add]; exact hc 1 _ rfl, ⟨g1, l1⟩⟩
set_option maxRecDepth 100000 in
set_option maxHeartbeats 1000000 in
theorem clCourse (w : World) (x : S61) (B1 : Option Addr) (d1 : Nat) (g1 : Kd.C k63 w B1 x.f1.length x.f1) (l1 : x.f1.length ≤ d1) (fb sb : Nat) (tf ts : TypeId) (s : ByteArray) (hf : w.heap[fb]? = some (.cells #[.func (.func 50) #[] #[]] tf (0, 0))) (hs : w.heap[sb]? = some (.cells #[.string s] ts (0, 0))) :
    Calls Tryz.prog 154 #[.agg #[.string x.f0, .slice B1 x.f1.length d1], .pointer (some ⟨fb, 0, none⟩), .pointer (some ⟨sb, 0, none⟩)] w fun e w' => e = .returned (.bool (x.f0.toList == s.toList)) ∧ Below w.heap.size w w' := by
  have HF := Aside0.mk hf
  have HS := Aside0.mk hs
  have HG1 := Aside0.mk g1
  have HL1 := Aside0.mk l1
  clear hf hs g1 l1
  have hut := Tryz.underlying61
  go_enter Tryz.func154, Tryz.ntmps154
  go_wp2_with (first
    | ((with_reducible refine gate_dst (N := 3) rfl ?_); refine box_event ?hg (N := 3) ?hd (cs := #[.string x.f0, .slice B1 x.f1.length d1]) (t := 61) ?hr ?_; (case hd => rfl); (case hg => rfl); (case hr => first | (go_simp; done) | (go_simp; rfl)); intro gx hgx w2 hbox hB; have HX := Aside0.mk (And.intro hbox hB); clear hbox hgx hB))
  have hcf : w2.cell? ⟨fb, 0, none⟩ = some (.func (.func 50) #[] #[]) := pw_cell_below HX.out.2 ((blk_cell HF.out 0).trans rfl)
  have hcs : w2.cell? ⟨sb, 0, none⟩ = some (.string s) := pw_cell_below HX.out.2 ((blk_cell HS.out 0).trans rfl)
  have hc0 : w2.cell? ⟨gx, 0, none⟩ = some (.string x.f0) := (blk_cell HX.out.1 0).trans rfl
  have hc1 : w2.cell? ⟨gx, 1, none⟩ = some (.slice B1 x.f1.length d1) := (blk_cell HX.out.1 1).trans rfl
  have HD := Aside0.mk (below_drew HX.out.2)
  go_region_held3 (fun w' => w'.cell? ⟨fb, 0, none⟩ = some (.func (.func 50) #[] #[]) ∧ w'.cell? ⟨sb, 0, none⟩ = some (.string s) ∧ w'.cell? ⟨gx, 0, none⟩ = some (.string x.f0) ∧ w'.cell? ⟨gx, 1, none⟩ = some (.slice B1 x.f1.length d1)) (first | exact ⟨hcf, hcs, hc0, hc1⟩) (first
    | (go_at_call 50; refine (problem_courseName.calls _ _ _ _ x.f0 _ (Kd.C_below HG1.out HD.out) HL1.out rfl).mono ?_; rintro e w3 ⟨rfl, hB⟩; have HB := Aside0.mk hB; clear hB; have hcf2 := pw_cell_below HB.out (show w2.drew.cell? ⟨fb, 0, none⟩ = _ from hcf); have hcs2 := pw_cell_below HB.out (show w2.drew.cell? ⟨sb, 0, none⟩ = _ from hcs); have hx0 := pw_cell_below HB.out (show w2.drew.cell? ⟨gx, 0, none⟩ = _ from hc0); have hx1 := pw_cell_below HB.out (show w2.drew.cell? ⟨gx, 1, none⟩ = _ from hc1); clear hcf hcs hc0 hc1; have hcf := hcf2; have hcs := hcs2; have hc0 := hx0; have hc1 := hx1))
  go_wp2
  go_ret
  exact ⟨rfl, below_then HD.out HD.out.size HB.out⟩
set_option maxRecDepth 100000 in
set_option maxHeartbeats 1000000 in
theorem ixCourse (w : World) (A : Option Addr) (m c : Nat) (xs : List S61) (hm : xs.length = m) (hC : Kd.C k61 w A xs.length xs) (fb sb : Nat) (tf ts : TypeId) (s : ByteArray) (hf : w.heap[fb]? = some (.cells #[.func (.func 50) #[] #[]] tf (0, 0))) (hs : w.heap[sb]? = some (.cells #[.string s] ts (0, 0))) :
    Calls Tryz.prog 153 #[.slice A m c, .func (.func 154) #[] #[.pointer (some ⟨fb, 0, none⟩), .pointer (some ⟨sb, 0, none⟩)]] w fun e w' => e = .returned (.int .i64 (findI (fun x => x.f0) xs s 0)) ∧ Below w.heap.size w w' := by
  have HF := Aside0.mk hf
  have HS := Aside0.mk hs
  have HC := Aside0.mk hC
  have HM := Aside0.mk hm
  have hmx := Kd.C_max hC
  rw [hm] at hmx
  clear hf hs hC hm
  go_enter Tryz.func153, Tryz.ntmps153
  go_wp2
  go_loopw [8] (fun v8 wr => ∃ i : Nat, i ≤ m ∧ v8 = .int .i64 i ∧ Aside0 (∀ j y, j < i → xs[j]? = some y → y.f0.toList ≠ s.toList) ∧ Aside0 (Below w.heap.size w wr)) (fun v8 _ => m - (intOf v8).toNat)
  case atStart => exact ⟨0, Nat.zero_le _, rfl, ⟨fun j y hj => by omega⟩, ⟨Below.refl _ _⟩⟩
  case round =>
    obtain ⟨i, hi, rfl, HN, HB⟩ := hrel
    by_cases him : i < m
    · have him2 : (i : Int) < (m : Int) := by omega
      obtain ⟨x, hx⟩ : ∃ x, xs[i]? = some x := ⟨_, List.getElem?_eq_getElem (by have := HM.out; omega)⟩
      obtain ⟨ad, B1, d1, rfl, hk0, hk1, ⟨g1, l1⟩⟩ := elCourse (Kd.C_below HC.out HB.out) hx
      have HX := Aside0.mk hx
      have HG1 := Aside0.mk g1
      have HL1 := Aside0.mk l1
      clear hx g1 l1
      cases heq : (x.f0.toList == s.toList) with
      | true =>
        have HE := Aside0.mk heq
        clear heq
        go_wp2_with (first
          | (go_at_call 154; refine (clCourse _ x B1 d1 HG1.out HL1.out fb sb tf ts s (blk_then HF.out HB.out) (blk_then HS.out HB.out)).mono ?_; rintro e w3 ⟨rfl, hB⟩; rw [HE.out]; have HB2 := Aside0.mk (below_then HB.out HB.out.size hB); clear hB))
        go_ret
        rw [findI_at (fun x => x.f0) s xs 0 i x HX.out (by simpa using HE.out) HN.out, Int.zero_add]
        exact ⟨rfl, HB2.out⟩
      | false =>
        have HE := Aside0.mk heq
        clear heq
        go_wp2_with (first
          | (go_at_call 154; refine (clCourse _ x B1 d1 HG1.out HL1.out fb sb tf ts s (blk_then HF.out HB.out) (blk_then HS.out HB.out)).mono ?_; rintro e w3 ⟨rfl, hB⟩; rw [HE.out]; have HB2 := Aside0.mk (below_then HB.out HB.out.size hB); clear hB))
        exact ⟨⟨i + 1, by omega, by go_num, ⟨fun j y hj hy => by
          by_cases e : j = i
          · subst e
            rw [HX.out] at hy
            cases hy
            simpa using HE.out
          · exact HN.out j y (by omega) hy⟩, HB2⟩, by simp [intOf]; omega⟩
    · obtain rfl : i = m := by omega
      go_wp2
      go_ret
      rw [findI_no (fun x => x.f0) s xs 0 (fun x hx => by
        obtain ⟨j, hj, rfl⟩ := List.getElem_of_mem hx
        exact HN.out j _ (by have := HM.out; omega) (List.getElem?_eq_getElem hj))]
      exact ⟨rfl, HB.out⟩
set_option maxRecDepth 100000 in
theorem plCourse (w : World) (A : Option Addr) (m c : Nat) (xs : List S61) (hm : xs.length = m) (hC : Kd.C k61 w A xs.length xs) (s : ByteArray) :
    Calls Tryz.prog 111 #[.slice A m c, .func (.func 50) #[] #[], .string s] w fun e w' => e = .returned (.int .i64 (findI (fun x => x.f0) xs s 0)) ∧ Below w.heap.size w w' := by
  have HC := Aside0.mk hC
  have HM := Aside0.mk hm
  clear hC hm
  go_enter Tryz.func111, Tryz.ntmps111
  go_wp2_with (first
    | ((with_reducible refine gate_dst (N := 4) rfl ?_); refine box_event ?hg (N := 4) ?hd (cs := #[.func (.func 50) #[] #[]]) (t := 96) ?hr ?_; (case hd => rfl); (case hg => rfl); (case hr => first | (go_simp; done) | (go_simp; rfl)); intro fb hfb w2 hbox hB; have HF := Aside0.mk hbox; have HB := Aside0.mk hB; clear hbox hfb hB)
    | ((with_reducible refine gate_dst (N := 5) rfl ?_); refine box_event ?hg (N := 5) ?hd (cs := #[.string s]) (t := 9) ?hr ?_; (case hd => rfl); (case hg => rfl); (case hr => first | (go_simp; done) | (go_simp; rfl)); intro sb hsb w3 hbox hB; have HF2 := Aside0.mk (blk_then HF.out hB); have HS := Aside0.mk hbox; have HB2 := Aside0.mk (below_then HB.out HB.out.size hB); clear hbox hsb hB HB HF)
    | (go_at_call 153; refine (ixCourse _ A m c xs HM.out (Kd.C_below HC.out HB2.out) fb sb _ _ s HF2.out HS.out).mono ?_; rintro e w4 ⟨rfl, hB⟩; have HB3 := Aside0.mk (below_then HB2.out HB2.out.size hB); clear hB))
  go_ret
  exact ⟨rfl, HB3.out⟩
set_option maxRecDepth 100000 in
theorem FindCourse_is (w : World) (p : PV) (a : PA) (s : ByteArray) (h : PRd w p a) :
    Calls Tryz.prog 27 #[.agg (pcs p a), .string s] w fun e w' => e = .returned (.int .i64 (findI (fun x => x.f0) p.courses s 0)) ∧ Below w.heap.size w w' := by
  have H := Aside0.mk h
  clear h
  have hu := Tryz.underlying34
  go_enter Tryz.func27, Tryz.ntmps27
  go_wp2_with (first
    | ((with_reducible refine gate_dst (N := 2) rfl ?_); refine box_event ?hg (N := 2) ?hd (cs := pcs p a) (t := 34) ?hr ?_; (case hd => rfl); (case hg => rfl); (case hr => first | (go_simp; done) | (go_simp; rfl)); intro g hg w2 hbox hB; have hcell : w2.cell? ⟨g, 8, none⟩ = some (.slice a.A8 p.courses.length a.c8) := (blk_cell hbox 8).trans rfl; have HB := Aside0.mk hB; clear hbox hg hB)
    | (go_at_call 111; refine (plCourse _ a.A8 p.courses.length a.c8 p.courses rfl (Kd.C_below H.out.r8 HB.out) s).mono ?_; rintro e w4 ⟨rfl, hB⟩; have HB3 := Aside0.mk (below_then HB.out HB.out.size hB); clear hB))
  go_ret
  exact ⟨rfl, HB3.out⟩
end Go.Proofs.YtineikfhfmiidaaGreat.Pm
