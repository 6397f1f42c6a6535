/- Further steps, for the chapter's examples. -/
import Derived.Test.YthbnnlhkcaomlaaGlobWorks
namespace Go.Proofs.Ythbnnlhkcaomlaa.Gl
open Go.RowKit Go.Shelf Go.Proofs.YthbnnlhkcaomlaaW.PrintWords
attribute [local go_sem] Oper.semAt_some
section
variable {n : Nat} {Q : Exit → Act → World → Prop} {l0 : List Oper} {ds : List Tmp} {m : Nat} {df : List Deferred} {base : Array Value} {sp : List Spec} {i : Nat}
set_option maxHeartbeats 1600000 in
theorem step_works (hdB : dstB l0 ds m = true) (j e : Nat) {d : Tmp} {ty : TypeId} {pos : String} {after : Array Edge} {guard : Option (Nat × Bool)} 
    (hg : guardB ds ⟨some d, .call { callee := .value (.func 13), args := #[], argTypes := #[] }, ty, pos, after, guard⟩ j e = true) (hj : guard = none ∨ sp[j]? = some Spec.tru)  (hs : sp[i]? = some (.eq (.bool true))) :
    StepOk Fence.wide n Try.prog Q l0 ds m df base (specS sp) i ⟨some d, .call { callee := .value (.func 13), args := #[], argTypes := #[] }, ty, pos, after, guard⟩ := by
  refine stepOk_of hdB j e hg hj fun t W ht hdep K hK => ?_
  have hro : Fence.wide.round = none := rfl
  have hf : ∀ f, Fence.wide.fn f := fun f => trivial
  have HS := Lib.hid hs
  clear hs hdep hg
  go_simp
  refine ⟨fun h => (by cases h), callsIn_wide.2 ((works_walk W).mono ?_)⟩
  rintro e w' ⟨rfl, hb⟩
  exact hK _ w' hb (specS_mk HS.out rfl)

theorem magic_at (l : List Rn) (v : Value) (r : Bool) (w : World) (h : RowAt w v l) (hl : (charsOf l).length ≤ 1099511627776) (hr : (pieces (charsOf l)).any Piece.odd = r) :
    Calls Try.prog 19 #[v] w fun e w' => e = .returned (.bool r) ∧ Below w.heap.size w w' := by
  obtain ⟨A, c, rfl, hc, hR, hA⟩ := h
  rw [← hr]
  exact magic_walk l A c w hA hR hl
theorem plain_at (l : List Rn) (v : Value) (r : ByteArray) (w : World) (h : RowAt w v l) (hl : (charsOf l).length ≤ 1099511627776) (hr : (⟨(plainL l).toArray⟩ : ByteArray) = r) :
    Calls Try.prog 21 #[v] w fun e w' => e = .returned (.string r) ∧ Below w.heap.size w w' := by
  obtain ⟨A, c, rfl, hc, hR, hA⟩ := h
  rw [← hr]
  exact plain_walk l A c w hA hR hl
theorem repeat_at (s : ByteArray) (c : Nat) (r : ByteArray) (w : World) (hl : decide (c ≤ 9223372036854775807 ∧ s.size * c ≤ 140737488355328) = true) (hr : (⟨(Lib.repeatL s.data.toList c).toArray⟩ : ByteArray) = r) :
    Calls Try.prog 25 #[.string s, .int .i64 c] w fun e w' => e = .returned (.string r) ∧ Below w.heap.size w w' := by
  rw [← hr]
  exact Try.strings_Repeat s c w (of_decide_eq_true hl).1 (of_decide_eq_true hl).2
set_option maxHeartbeats 1600000 in
theorem step_magic (hdB : dstB l0 ds m = true) (j e : Nat) {d : Tmp} {ty : TypeId} {pos : String} {after : Array Edge} {guard : Option (Nat × Bool)} {x : Operand} (l : List Rn) (r : Bool)
    (hg : guardB ds ⟨some d, .call { callee := .value (.func 19), args := #[x], argTypes := #[22] }, ty, pos, after, guard⟩ j e = true) (hj : guard = none ∨ sp[j]? = some Spec.tru) (h1 : Is ds sp m df ⟨some d, .call { callee := .value (.func 19), args := #[x], argTypes := #[22] }, ty, pos, after, guard⟩ x (.row l)) (hl : decide ((charsOf l).length ≤ 1099511627776) = true) (hr : (pieces (charsOf l)).any Piece.odd = r) (hs : sp[i]? = some (.eq (.bool r))) :
    StepOk Fence.wide n Try.prog Q l0 ds m df base (specS sp) i ⟨some d, .call { callee := .value (.func 19), args := #[x], argTypes := #[22] }, ty, pos, after, guard⟩ := by
  refine stepOk_of hdB j e hg hj fun t W ht hdep K hK => ?_
  have hro : Fence.wide.round = none := rfl
  have hf : ∀ f, Fence.wide.fn f := fun f => trivial
  have HS := Lib.hid hs
  have e1 := Lib.hid (show RowAt W (Act.eval ⟨t, df⟩ x) l from h1 t W ht hdep)
  obtain ⟨v1, hv1⟩ : ∃ v, v = Act.eval ⟨t, df⟩ x := ⟨_, rfl⟩
  rw [← hv1] at e1
  replace hv1 := hv1.symm
  simp [go_sem] at hv1
  have HL := Lib.hid (of_decide_eq_true hl)
  have HR := Lib.hid hr
  clear hl hr
  clear hs hdep hg
  go_simp
  refine ⟨fun h => (by cases h), callsIn_wide.2 ((magic_at l v1 r W e1.out HL.out HR.out).mono ?_)⟩
  rintro e w' ⟨rfl, hb⟩
  exact hK _ w' hb (specS_mk HS.out rfl)

set_option maxHeartbeats 1600000 in
theorem step_plain (hdB : dstB l0 ds m = true) (j e : Nat) {d : Tmp} {ty : TypeId} {pos : String} {after : Array Edge} {guard : Option (Nat × Bool)} {x : Operand} (l : List Rn) (r : ByteArray)
    (hg : guardB ds ⟨some d, .call { callee := .value (.func 21), args := #[x], argTypes := #[22] }, ty, pos, after, guard⟩ j e = true) (hj : guard = none ∨ sp[j]? = some Spec.tru) (h1 : Is ds sp m df ⟨some d, .call { callee := .value (.func 21), args := #[x], argTypes := #[22] }, ty, pos, after, guard⟩ x (.row l)) (hl : decide ((charsOf l).length ≤ 1099511627776) = true) (hr : (⟨(plainL l).toArray⟩ : ByteArray) = r) (hs : sp[i]? = some (.eq (.string r))) :
    StepOk Fence.wide n Try.prog Q l0 ds m df base (specS sp) i ⟨some d, .call { callee := .value (.func 21), args := #[x], argTypes := #[22] }, ty, pos, after, guard⟩ := by
  refine stepOk_of hdB j e hg hj fun t W ht hdep K hK => ?_
  have hro : Fence.wide.round = none := rfl
  have hf : ∀ f, Fence.wide.fn f := fun f => trivial
  have HS := Lib.hid hs
  have e1 := Lib.hid (show RowAt W (Act.eval ⟨t, df⟩ x) l from h1 t W ht hdep)
  obtain ⟨v1, hv1⟩ : ∃ v, v = Act.eval ⟨t, df⟩ x := ⟨_, rfl⟩
  rw [← hv1] at e1
  replace hv1 := hv1.symm
  simp [go_sem] at hv1
  have HL := Lib.hid (of_decide_eq_true hl)
  have HR := Lib.hid hr
  clear hl hr
  clear hs hdep hg
  go_simp
  refine ⟨fun h => (by cases h), callsIn_wide.2 ((plain_at l v1 r W e1.out HL.out HR.out).mono ?_)⟩
  rintro e w' ⟨rfl, hb⟩
  exact hK _ w' hb (specS_mk HS.out rfl)

set_option maxHeartbeats 1600000 in
theorem step_repeat (hdB : dstB l0 ds m = true) (j e : Nat) {d : Tmp} {ty : TypeId} {pos : String} {after : Array Edge} {guard : Option (Nat × Bool)} {x y : Operand} (s : ByteArray) (c : Nat) (r : ByteArray)
    (hg : guardB ds ⟨some d, .call { callee := .value (.func 25), args := #[x, y], argTypes := #[9, 3] }, ty, pos, after, guard⟩ j e = true) (hj : guard = none ∨ sp[j]? = some Spec.tru) (h1 : Is ds sp m df ⟨some d, .call { callee := .value (.func 25), args := #[x, y], argTypes := #[9, 3] }, ty, pos, after, guard⟩ x (.eq (.string s))) (h2 : Is ds sp m df ⟨some d, .call { callee := .value (.func 25), args := #[x, y], argTypes := #[9, 3] }, ty, pos, after, guard⟩ y (.eq (.int .i64 c))) (hl : decide (c ≤ 9223372036854775807 ∧ s.size * c ≤ 140737488355328) = true) (hr : (⟨(Lib.repeatL s.data.toList c).toArray⟩ : ByteArray) = r) (hs : sp[i]? = some (.eq (.string r))) :
    StepOk Fence.wide n Try.prog Q l0 ds m df base (specS sp) i ⟨some d, .call { callee := .value (.func 25), args := #[x, y], argTypes := #[9, 3] }, ty, pos, after, guard⟩ := by
  refine stepOk_of hdB j e hg hj fun t W ht hdep K hK => ?_
  have hro : Fence.wide.round = none := rfl
  have hf : ∀ f, Fence.wide.fn f := fun f => trivial
  have HS := Lib.hid hs
  have e1 := h1 t W ht hdep
  simp only [Spec.holds] at e1
  simp [go_sem] at e1
  have e2 := h2 t W ht hdep
  simp only [Spec.holds] at e2
  simp [go_sem] at e2
  have HL := Lib.hid hl
  have HR := Lib.hid hr
  clear hl hr
  clear hs hdep hg
  go_simp
  refine ⟨fun h => (by cases h), callsIn_wide.2 ((repeat_at s c r W HL.out HR.out).mono ?_)⟩
  rintro e w' ⟨rfl, hb⟩
  exact hK _ w' hb (specS_mk HS.out rfl)

set_option maxHeartbeats 1600000 in
theorem step_not (hdB : dstB l0 ds m = true) (j e : Nat) {d : Tmp} {ty : TypeId} {pos : String} {after : Array Edge} {guard : Option (Nat × Bool)} {x : Operand}
    (hg : guardB ds ⟨some d, .unOp .not 4 x, ty, pos, after, guard⟩ j e = true) (hj : guard = none ∨ sp[j]? = some Spec.tru) (h1 : Is ds sp m df ⟨some d, .unOp .not 4 x, ty, pos, after, guard⟩ x (.eq (.bool false))) (hs : sp[i]? = some (.eq (.bool true))) :
    StepOk Fence.wide n Try.prog Q l0 ds m df base (specS sp) i ⟨some d, .unOp .not 4 x, ty, pos, after, guard⟩ := by
  refine stepOk_of hdB j e hg hj fun t W ht hdep K hK => ?_
  have hro : Fence.wide.round = none := rfl
  have hf : ∀ f, Fence.wide.fn f := fun f => trivial
  have HS := Lib.hid hs
  have e1 := h1 t W ht hdep
  simp only [Spec.holds] at e1
  simp [go_sem] at e1
  clear hs hdep hg
  go_simp
  exact hK _ W (Below.refl _ _) (specS_mk HS.out rfl)

set_option maxHeartbeats 1600000 in
theorem step_eqs (hdB : dstB l0 ds m = true) (j e : Nat) {d : Tmp} {ty : TypeId} {pos : String} {after : Array Edge} {guard : Option (Nat × Bool)} {x y : Operand} (s : ByteArray)
    (hg : guardB ds ⟨some d, .binOp .eql 9 x y 9, ty, pos, after, guard⟩ j e = true) (hj : guard = none ∨ sp[j]? = some Spec.tru) (h1 : Is ds sp m df ⟨some d, .binOp .eql 9 x y 9, ty, pos, after, guard⟩ x (.eq (.string s))) (h2 : Is ds sp m df ⟨some d, .binOp .eql 9 x y 9, ty, pos, after, guard⟩ y (.eq (.string s))) (hs : sp[i]? = some (.eq (.bool true))) :
    StepOk Fence.wide n Try.prog Q l0 ds m df base (specS sp) i ⟨some d, .binOp .eql 9 x y 9, ty, pos, after, guard⟩ := by
  refine stepOk_of hdB j e hg hj fun t W ht hdep K hK => ?_
  have hro : Fence.wide.round = none := rfl
  have hf : ∀ f, Fence.wide.fn f := fun f => trivial
  have HS := Lib.hid hs
  have e1 := h1 t W ht hdep
  simp only [Spec.holds] at e1
  simp [go_sem] at e1
  have e2 := h2 t W ht hdep
  simp only [Spec.holds] at e2
  simp [go_sem] at e2
  clear hs hdep hg
  go_simp
  exact hK _ W (Below.refl _ _) (specS_mk HS.out rfl)

set_option maxHeartbeats 1600000 in
theorem step_adds (hdB : dstB l0 ds m = true) (j e : Nat) {d : Tmp} {ty : TypeId} {pos : String} {after : Array Edge} {guard : Option (Nat × Bool)} {x y : Operand} (a b r : ByteArray)
    (hg : guardB ds ⟨some d, .binOp .add 9 x y 9, ty, pos, after, guard⟩ j e = true) (hj : guard = none ∨ sp[j]? = some Spec.tru) (h1 : Is ds sp m df ⟨some d, .binOp .add 9 x y 9, ty, pos, after, guard⟩ x (.eq (.string a))) (h2 : Is ds sp m df ⟨some d, .binOp .add 9 x y 9, ty, pos, after, guard⟩ y (.eq (.string b))) (hl : decide (a.size + b.size ≤ 1000) = true) (hr : a ++ b = r) (hs : sp[i]? = some (.eq (.string r))) :
    StepOk Fence.wide n Try.prog Q l0 ds m df base (specS sp) i ⟨some d, .binOp .add 9 x y 9, ty, pos, after, guard⟩ := by
  refine stepOk_of hdB j e hg hj fun t W ht hdep K hK => ?_
  have hro : Fence.wide.round = none := rfl
  have hf : ∀ f, Fence.wide.fn f := fun f => trivial
  have HS := Lib.hid hs
  have e1 := h1 t W ht hdep
  simp only [Spec.holds] at e1
  simp [go_sem] at e1
  have e2 := h2 t W ht hdep
  simp only [Spec.holds] at e2
  simp [go_sem] at e2
  have hlt := of_decide_eq_true hl
  have hl1 : (9223372036854775807 < a.size + b.size) = False := eq_false (by omega)
  have hl2 : decide (a.size + b.size ≤ 9223372036854775807) = true := decide_eq_true (by omega)
  have hl3 : (a.size + b.size ≤ 9223372036854775807) = True := eq_true (by omega)
  clear hl hlt
  clear hs hdep hg
  go_simp
  exact hK _ W (Below.refl _ _) (specS_mk HS.out rfl)

end

theorem matchP_last {b : UInt8} : ∀ (P : List Piece) (s : List UInt8), matchP (P ++ [.lit b]) s = true → ∃ s', s = s' ++ [b]
  | [], s, h => by
    rw [List.nil_append, matchP_one (by rfl)] at h
    obtain ⟨c, t, rfl, h1, h2⟩ := h
    have : c = b := by simpa [Piece.one] using h1
    rw [matchP_nil.1 h2, this]
    exact ⟨[], rfl⟩
  | p :: P, s, h => by
    rw [List.cons_append] at h
    cases hp : p.isStar with
    | true =>
      rw [matchP_star hp] at h
      obtain ⟨k, hk, h⟩ := h
      obtain ⟨s', h'⟩ := matchP_last P _ h
      exact ⟨s.take k ++ s', by rw [List.append_assoc, ← h', List.take_append_drop]⟩
    | false =>
      rw [matchP_one hp] at h
      obtain ⟨c, t, rfl, _, h⟩ := h
      obtain ⟨s', rfl⟩ := matchP_last P _ h
      exact ⟨c :: s', rfl⟩

theorem rows_last (l : List Rn) (s : ByteArray) (P : List Piece) (b : UInt8) (hP : pieces (charsOf l) = P ++ [.lit b]) (hs : s.data.toList.getLast? ≠ some b) (hl : decide ((charsOf l).length ≤ 1099511627776 ∧ s.size ≤ 1099511627776) = true) : rowsB l [] [s] = true := by
  have h := of_decide_eq_true hl
  have hm : mm l s = false := by
    cases hm : mm l s with
    | false => rfl
    | true =>
      unfold mm at hm
      rw [hP] at hm
      obtain ⟨s', e⟩ := matchP_last P _ hm
      rw [e] at hs
      simp at hs
  simp [rowsB, hm, h.1, h.2]
end Go.Proofs.Ythbnnlhkcaomlaa.Gl
