/- The walk of isName. -/
import Derived.Test.YthbnnlhkcaomlaaDoorExFlat
namespace Go.Proofs.YthbnnlhkcaomlaaDoor.Ex
open Go.RowKit Go.Shelf Go.Proofs.YthbnnlhkcaomlaaDoorW.PrintWords Go.Proofs.YthbnnlhkcaomlaaDoor.Gl

def isNameP (s : B) : Bool := decide (s ≠ ⟨#[]⟩) && (decide ((s.data.toList.headD 0).toNat < 48) || decide (57 < (s.data.toList.headD 0).toNat)) && !decide (0 ≤ Lib.idxFunc badRune true s)

set_option maxHeartbeats 3200000 in
set_option maxRecDepth 100000 in
theorem bad_walk (x : Nat) (hx : x ≤ 1114111) (w : World) : Calls Tryd.prog 52 #[.int .i32 (x : Int)] w fun en w' => en = .returned (.bool (badRune x)) ∧ w = w' := by
  obtain ⟨r, hr⟩ : ∃ r, badRune x = r := ⟨_, rfl⟩
  rw [hr]
  have HR := Lib.hid hr
  clear hr
  go_enter Tryd.func52, Tryd.ntmps52
  go_wp2
  all_goals
    go_ret
    refine ⟨ret_bool ?_, rfl⟩
    rw [← HR.out, Bool.eq_iff_iff]
    first
      | (simp [badRune]; done)
      | (simp [badRune]; omega)

theorem toList_head (s : B) (h : 0 < s.size) : s.data.toList.headD 0 = s[0] := by
  have hl : 0 < s.data.toList.length := by rw [Array.length_toList]; exact h
  rw [List.headD_eq_head?_getD, List.head?_eq_getElem?, List.getElem?_eq_getElem hl]
  simp
  rfl

theorem fn_eg (args : Array Value) (w : World) : (callFunc 52 args).run Tryd.prog w = .ok (.enter 52 args) w := by rfl

set_option maxHeartbeats 3200000 in
set_option maxRecDepth 100000 in
theorem name_walk (s : B) (w : World) : Calls Tryd.prog 42 #[.string s] w fun en w' => en = .returned (.bool (isNameP s)) ∧ Below w.heap.size w w' := by
  have hp : ∀ W : World, PredGrows Tryd.prog 52 #[] badRune W := fun W W1 x hx hb => (bad_walk x hx W1).mono (fun e w' ⟨h1, h2⟩ => ⟨h1, by rw [← h2]; exact Below.refl _ _⟩)
  have HP := Lib.hid hp
  clear hp
  by_cases h0 : s = ⟨#[]⟩
  · subst h0
    go_enter Tryd.func42, Tryd.ntmps42
    go_wp2
    go_ret
    exact ⟨rfl, Below.refl _ _⟩
  · have n1 : ¬ s.toList = [] := ne_lit h0
    have n2 : (s.toList == []) = false := by simpa using n1
    have hsz : 0 < s.size := by
      rcases Nat.eq_zero_or_pos s.size with h | h
      · exact absurd (ByteArray.ext (Array.eq_empty_of_size_eq_zero h)) h0
      · exact h
    obtain ⟨r, hr⟩ : ∃ r, isNameP s = r := ⟨_, rfl⟩
    rw [hr]
    unfold isNameP at hr
    rw [toList_head s hsz] at hr
    have HR := Lib.hid hr
    have H0 := Lib.hid h0
    clear hr h0
    by_cases hd : s[0].toNat < 48 ∨ 57 < s[0].toNat
    · have HD := Lib.hid hd
      have hd2 : ((s[0].toNat : Nat) : Int) < 48 ∨ (57 : Int) < ((s[0].toNat : Nat) : Int) := by omega
      clear hd
      rcases hd2 with hd2 | hd2
      all_goals
        go_enter Tryd.func42, Tryd.ntmps42
        go_wp2_with (go_at_call 53; refine (Tryd.strings_ContainsFunc_grows 52 #[] fn_eg badRune s _ (HP.out _)).mono ?_; rintro e w' ⟨rfl, hb⟩)
        go_ret
        refine ⟨ret_bool ?_, hb⟩
        rw [← HR.out]
        have e0 : decide (s ≠ ⟨#[]⟩) = true := decide_eq_true H0.out
        have e1 : (decide (s[0].toNat < 48) || decide (57 < s[0].toNat)) = true := by simpa using HD.out
        rw [e0, e1]
        simp
    · have h1 : (48 : Int) ≤ ((s[0].toNat : Nat) : Int) := by omega
      have h2 : ((s[0].toNat : Nat) : Int) ≤ 57 := by omega
      have HD := Lib.hid hd
      clear hd
      go_enter Tryd.func42, Tryd.ntmps42
      go_wp2
      go_ret
      refine ⟨ret_bool ?_, Below.refl _ _⟩
      rw [← HR.out]
      have h1 := HD.out
      simp [H0.out]
      omega

end Go.Proofs.YthbnnlhkcaomlaaDoor.Ex
