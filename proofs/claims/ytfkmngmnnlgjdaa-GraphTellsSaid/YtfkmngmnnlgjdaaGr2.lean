/- is and Has of a graph, by the graph's cells. -/
import Derived.Test.YtfkmngmnnlgjdaaGr1
import Derived.BigQuiet
import Derived.Deep.QuietTactic
namespace Go.Proofs.Ytfkmngmnnlgjdaa.Gr
open Go Go.RowKit Go.Proofs.Ytfkmngmnnlgjdaa.Gf Go.Proofs.Ytfkmngmnnlgjdaa.Pu Go.Proofs.YtfkmngmnnlgjdaaW.PrintWords Go.Proofs.YtfkmngmnnlgjdaaW.PrintLast Go.Proofs.YtfkmngmnnlgjdaaW.PrintMore
set_option linter.unusedVariables false

/-- Is a a node? -/
def isN (n : Nat) (a : Int) : Bool := decide (0 ≤ a) && decide (a < (n : Int))
set_option maxHeartbeats 400000 in
theorem is_is (w : World) (b : Nat) (v : Value) (n : Nat) (adj : Adj) (a : Int) (h : GIs w b v n adj) : Calls Try.prog 32 #[.pointer (some ⟨b, 0, none⟩), .int .i64 a] w fun e w' => e = .returned (.bool (isN n a)) ∧ w = w' := by
  by_cases ha : 0 ≤ a
  · by_cases hn : a < (n : Int)
    · have hr : isN n a = true := by simp [isN, ha, hn]
      have HR := Lib.hid hr
      clear hr
      go_enter Try.func32, Try.ntmps32
      go_wp2_with (go_at_call 11; refine (Len_is w b v n adj h).mono ?_; rintro e w' ⟨rfl, rfl⟩)
      go_ret
      rw [HR.out]
      exact ⟨rfl, rfl⟩
    · have hr : isN n a = false := by simp [isN, ha, hn]
      have HR := Lib.hid hr
      clear hr
      have hd : decide (a < (n : Int)) = false := by simp; omega
      go_enter Try.func32, Try.ntmps32
      go_wp2_with (go_at_call 11; refine (Len_is w b v n adj h).mono ?_; rintro e w' ⟨rfl, rfl⟩)
      go_ret
      rw [HR.out]
      exact ⟨rfl, rfl⟩
  · have hr : isN n a = false := by simp [isN, ha]
    have HR := Lib.hid hr
    clear hr
    go_enter Try.func32, Try.ntmps32
    go_wp2
    go_ret
    rw [HR.out]
    exact ⟨rfl, rfl⟩
set_option maxHeartbeats 400000 in
theorem is_nil (w : World) (a : Int) : Calls Try.prog 32 #[.pointer none, .int .i64 a] w fun e w' => e = .returned (.bool false) ∧ w = w' := by
  by_cases ha : 0 ≤ a
  · have ha2 : decide (a < 0) = false := by simp; omega
    go_enter Try.func32, Try.ntmps32
    go_wp2_with (go_at_call 11; refine (Len_nil w).mono ?_; rintro e w' ⟨rfl, rfl⟩)
    go_ret
    exact ⟨rfl, rfl⟩
  · go_enter Try.func32, Try.ntmps32
    go_wp2
    go_ret
    exact ⟨rfl, rfl⟩
/-- Are two numbers joined nodes? -/
def hasN (n : Nat) (adj : Adj) (a b : Int) : Bool := isN n a && decide (0 ≤ b) && adj a.toNat b.toNat
set_option maxHeartbeats 400000 in
theorem Has_is (w : World) (g : Nat) (v : Value) (n : Nat) (adj : Adj) (a b : Int) (h : GIs w g v n adj) (hb0 : -9223372036854775808 ≤ b) (hb1 : b ≤ 9223372036854775807) :
    Calls Try.prog 16 #[.pointer (some ⟨g, 0, none⟩), .int .i64 a, .int .i64 b] w fun e w' => e = .returned (.bool (hasN n adj a b)) ∧ Drawn0 w w' := by
  by_cases hn : isN n a = true
  · have hn2 := hn
    simp only [isN, Bool.and_eq_true, decide_eq_true_eq] at hn2
    obtain ⟨ha0, ha1⟩ := hn2
    obtain ⟨m, rfl⟩ := Int.eq_ofNat_of_zero_le ha0
    have ha2 : m < n := by omega
    obtain ⟨A, c, rfl, hc, hcell⟩ := h.head
    obtain ⟨ad, B, cB, l, rfl, hrow, hlc, hC, hW, hl64, hbit⟩ := h.row ha2
    have hr : bits_Has.f l b = some (hasN n adj (m : Int) b) := by
      rw [has_f hW hb0 hb1]
      unfold hasN
      rw [hn, Int.toNat_natCast, hbit]
      rfl
    have HR := Lib.hid hr
    have HN := Lib.hid hn
    have HC := Lib.hid hC
    have H := Lib.hid h
    clear hr hn hC h hbit hW
    go_enter Try.func16, Try.ntmps16
    go_wp2_with (first | (go_at_call 32; refine (is_is w g _ n adj _ H.out).mono ?_; rintro e w' ⟨rfl, rfl⟩; rw [HN.out]) | (go_at_call 34; refine (bits_Has.calls B cB l b _ w HC.out hlc HR.out).mono ?_; rintro e w' ⟨rfl, ⟨nd, rfl⟩⟩))
    go_ret
    exact ⟨rfl, ⟨⟨_, rfl⟩⟩⟩
  · have hn' : isN n a = false := by simpa using hn
    have hr : hasN n adj a b = false := by unfold hasN; rw [hn']; rfl
    have HR := Lib.hid hr
    have HN := Lib.hid hn'
    have H := Lib.hid h
    clear hr hn hn' h
    go_enter Try.func16, Try.ntmps16
    go_wp2_with (first | (go_at_call 32; refine (is_is w g _ n adj _ H.out).mono ?_; rintro e w' ⟨rfl, rfl⟩; rw [HN.out]))
    go_ret
    rw [HR.out]
    exact ⟨rfl, ⟨⟨0, rfl⟩⟩⟩
set_option maxHeartbeats 400000 in
theorem Has_nil (w : World) (a b : Int) : Calls Try.prog 16 #[.pointer none, .int .i64 a, .int .i64 b] w fun e w' => e = .returned (.bool false) ∧ w = w' := by
  go_enter Try.func16, Try.ntmps16
  go_wp2_with (first | (go_at_call 32; refine (is_nil w a).mono ?_; rintro e w' ⟨rfl, rfl⟩))
  go_ret
  exact ⟨rfl, rfl⟩
end Go.Proofs.Ytfkmngmnnlgjdaa.Gr
