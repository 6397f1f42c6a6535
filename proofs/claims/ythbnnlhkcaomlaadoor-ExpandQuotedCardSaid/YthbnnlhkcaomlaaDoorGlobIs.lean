/- The walk of (char).is: whether an unquoted character is one of one or two bytes. -/
import Derived.Test.YthbnnlhkcaomlaaDoorShelf
import Derived.Test.YthbnnlhkcaomlaaDoorGlobPure
import Derived.WalkKit
import Derived.BigQuiet
import Derived.Deep.QuietTactic
import Derived.Deep.RegionHeld3
import Derived.Lib.Hide
import Derived.Lib.IndexAny
namespace Go.Proofs.YthbnnlhkcaomlaaDoor.Gl
open Go.RowKit

def isL (c : Ch) (l : List UInt8) : Bool := !c.2 && l.contains c.1

theorem isL_one (c : Ch) (b : UInt8) : isL c [b] = isC c b := by
  simp only [isL, isC, List.contains_cons, List.contains_nil, Bool.or_false]
theorem isL_two (c : Ch) (a b : UInt8) : isL c [a, b] = (isC c a || isC c b) := by
  simp only [isL, isC, List.contains_cons, List.contains_nil, Bool.or_false]
  cases c.2 <;> simp

theorem ret_bool {a b : Bool} (h : a = b) : Ending.returned (.bool a) = .returned (.bool b) := by rw [h]

set_option maxHeartbeats 400000 in
theorem is_walk (c : Ch) (s : ByteArray) (w : World) :
    Calls Tryd.prog 61 #[.agg #[.int .u8 (c.1.toNat : Int), .bool c.2], .string s] w fun e w' => e = .returned (.bool (isL c s.data.toList)) ∧ Below w.heap.size w w' := by
  obtain ⟨b, q⟩ := c
  cases q with
  | true =>
    go_enter Tryd.func61, Tryd.ntmps61
    go_wp2
    go_ret
    exact ⟨rfl, (Below.refl _ _).alloc (Nat.le_refl _) _⟩
  | false =>
    go_enter Tryd.func61, Tryd.ntmps61
    go_wp2_with (go_at_call 75; refine (Tryd.strings_IndexByte _ _ _).mono ?_; rintro e w' ⟨rfl, rfl⟩)
    go_ret
    refine ⟨ret_bool ?_, (Below.refl _ _).alloc (Nat.le_refl _) _⟩
    simp only [isL, Bool.not_false, Bool.true_and]
    rw [Lib.contains_iff_indexByte]
end Go.Proofs.YthbnnlhkcaomlaaDoor.Gl
