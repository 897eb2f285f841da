/-
  Text and Ints of a reader that has its error: nothing is read.
-/
import Derived.Test.YtbcpdjhpceimlaaAlive
namespace Go.Proofs.Ytbcpdjhpceimlaa
open Go.ChangeShapes Go.WideShapes Go.ChangeAt Go.RowKit

/-- Uint of a reader that has its error, at whatever number. -/
theorem Uint_err (R : Nat) (a : Option Addr) (n c : Nat) (bs : Bytes) (at' e : Nat) (he : e ≠ 0) (most : Int) (w : World) (h : RdrAt 109 w R a n c bs at' e) :
    Calls Try.prog 19 #[.pointer (some ⟨R, 0, none⟩), .int .u64 most] w fun x w' => x = .returned (.int .u64 0) ∧ w = w' := by
  have hc2 := h.c2
  have p1 : ((e : Int) == 0) = false := by simp; omega
  clear h he
  go_enter Try.func19, Try.ntmps19
  go_wp2_with fail
  go_ret
  exact ⟨rfl, rfl⟩

theorem Int_err (R : Nat) (a : Option Addr) (n c : Nat) (bs : Bytes) (at' e : Nat) (he : e ≠ 0) (w : World) (h : RdrAt 109 w R a n c bs at' e) :
    Calls Try.prog 20 #[.pointer (some ⟨R, 0, none⟩)] w fun x w' => x = .returned (.int .i64 0) ∧ w = w' := by
  have H := Lib.hid h
  have HE := Lib.hid he
  clear h he
  go_enter Try.func20, Try.ntmps20
  go_wp2_with (go_at_call 19; refine halt_here ?_)
  refine go_on ((Uint_err R a n c bs at' e HE.out _ w H.out).mono ?_)
  rintro x w1 ⟨rfl, rfl⟩
  go_wp2_with fail
  go_ret
  exact ⟨rfl, rfl⟩

theorem Bool_err (R : Nat) (a : Option Addr) (n c : Nat) (bs : Bytes) (at' e : Nat) (he : e ≠ 0) (w : World) (h : RdrAt 109 w R a n c bs at' e) :
    Calls Try.prog 31 #[.pointer (some ⟨R, 0, none⟩)] w fun x w' => x = .returned (.bool false) ∧ w = w' := by
  have H := Lib.hid h
  have HE := Lib.hid he
  clear h he
  go_enter Try.func31, Try.ntmps31
  go_wp2_with (go_at_call 19; refine halt_here ?_)
  refine go_on ((Uint_err R a n c bs at' e HE.out _ w H.out).mono ?_)
  rintro x w1 ⟨rfl, rfl⟩
  go_wp2_with fail
  go_ret
  exact ⟨rfl, rfl⟩

theorem Left_err (R : Nat) (a : Option Addr) (n c : Nat) (bs : Bytes) (at' e : Nat) (he : e ≠ 0) (w : World) (h : RdrAt 109 w R a n c bs at' e) :
    Calls Try.prog 23 #[.pointer (some ⟨R, 0, none⟩)] w fun x w' => x = .returned (.int .i64 0) ∧ w = w' := by
  have hc2 := h.c2
  have p1 : ((e : Int) == 0) = false := by simp; omega
  clear h he
  go_enter Try.func23, Try.ntmps23
  go_wp2_with fail
  go_ret
  exact ⟨rfl, rfl⟩

theorem Text_err (R : Nat) (a : Option Addr) (n c : Nat) (bs : Bytes) (at' e : Nat) (he : e ≠ 0) (most : Int) (w : World) (h : RdrAt 109 w R a n c bs at' e) :
    Calls Try.prog 32 #[.pointer (some ⟨R, 0, none⟩), .int .i64 most] w fun x w' => x = .returned (.string ByteArray.empty) ∧ w = w' := by
  have H := Lib.hid h
  have HE := Lib.hid he
  have hc2 := h.c2
  have p1 : ((e : Int) == 0) = false := by simp; omega
  clear h he
  go_enter Try.func32, Try.ntmps32
  go_wp2_with fail
  all_goals
    refine (Uint_err R a n c bs at' e HE.out _ w H.out).mono ?_
    rintro x w1 ⟨rfl, rfl⟩
    go_wp2_with fail
    go_ret
    exact ⟨rfl, rfl⟩

set_option maxRecDepth 100000 in
theorem Ints_err (R : Nat) (a : Option Addr) (n c : Nat) (bs : Bytes) (at' e : Nat) (he : e ≠ 0) (most : Int) (w : World) (h : RdrAt 109 w R a n c bs at' e) :
    Calls Try.prog 33 #[.pointer (some ⟨R, 0, none⟩), .int .i64 most] w fun x w' => x = .returned (.slice none 0 0) ∧ w = w' := by
  have H := Lib.hid h
  have HE := Lib.hid he
  clear h he
  go_enter Try.func33, Try.ntmps33
  go_wp2_with fail
  all_goals
    refine (Uint_err R a n c bs at' e HE.out _ w H.out).mono ?_
    rintro x w1 ⟨rfl, rfl⟩
    go_wp2_with fail
    go_loopw [6, 7] (fun o i wr => o = .slice none 0 0 ∧ i = .int .u64 0 ∧ wr = w) (fun _ _ _ => 0)
    case atStart => exact ⟨rfl, rfl, rfl⟩
    case round =>
      obtain ⟨rfl, rfl, rfl⟩ := hrel
      go_wp2_with fail
      go_ret
      exact ⟨rfl, rfl⟩
end Go.Proofs.Ytbcpdjhpceimlaa
