/- The steps of the laws' long '&&': what each operation yields. -/
import Derived.Test.YthbnnlhkcaomlaaGlobRows
import Derived.TacticsIn
namespace Go.Proofs.Ythbnnlhkcaomlaa.Gl
open Go.RowKit Go.Shelf Go.Proofs.YthbnnlhkcaomlaaW.PrintWords
attribute [local go_sem] Oper.semAt_some

/-- What an operation yields. -/
inductive Spec where
  | row (l : List Rn)
  | str (l : List ByteArray)
  | eq (v : Value)
def Spec.holds (s : Spec) (W : World) (v : Value) : Prop := match s with
  | .row l => RowAt W v l
  | .str l => StrAt W v l
  | .eq u => v = u
abbrev Spec.tru : Spec := .eq (.bool true)
theorem Spec.below {s : Spec} {W W' : World} {v : Value} (h : s.holds W v) (hb : Below W.heap.size W W') : s.holds W' v := by
  cases s with
  | row l => exact RowAt.below (show RowAt W v l from h) hb
  | str l => exact StrAt.below (show StrAt W v l from h) hb
  | eq u => exact h
def specS (sp : List Spec) (i : Nat) (W : World) (v : Value) : Prop := match sp[i]? with
  | some s => s.holds W v
  | none => True
theorem specS_below (sp : List Spec) (i : Nat) (W W' : World) (v : Value) (h : specS sp i W v) (hb : Below W.heap.size W W') : specS sp i W' v := by
  unfold specS at h ⊢
  cases hs : sp[i]? with
  | none => trivial
  | some s => rw [hs] at h; exact Spec.below (show s.holds W v from h) hb

/-- Do the rows answer as they are wanted? -/
def rowsB (l : List Rn) (yes no : List ByteArray) : Bool := decide ((charsOf l).length ≤ 1099511627776) && (yes.all fun s => decide (s.size ≤ 1099511627776) && mm l s) && no.all fun s => decide (s.size ≤ 1099511627776) && !mm l s
theorem rows_true (l : List Rn) (yes no : List ByteArray) (v1 v2 v3 : Value) (w : World) (h1 : RowAt w v1 l) (h2 : StrAt w v2 yes) (h3 : StrAt w v3 no) (h : rowsB l yes no = true) :
    Calls Try.prog 24 #[v1, v2, v3] w fun e w' => e = .returned (.bool true) ∧ Below w.heap.size w w' := by
  simp only [rowsB, Bool.and_eq_true, decide_eq_true_eq, List.all_eq_true, Bool.not_eq_true'] at h
  exact rows_walk l yes no v1 v2 v3 w h1 h2 h3 h.1.1 h.1.2 h.2

section
variable {n : Nat} {Q : Exit → Act → World → Prop} {l0 : List Oper} {ds : List Tmp} {m : Nat} {df : List Deferred} {base : Array Value} {sp : List Spec} {i : Nat}

def Deps (ds : List Tmp) (sp : List Spec) (o : Oper) (t : Array Value) (W : World) : Prop := ∀ e ∈ o.after, Region.binds .any e = true → ∃ d, ds[e.on]? = some d ∧ specS sp e.on W (t.getD d undef)

/-- An operation that was waited for: the tmp, and what it yields. -/
theorem Deps.get {o : Oper} {t : Array Value} {W : World} (h : Deps ds sp o t W) (j d : Nat) (s : Spec) (he : (o.after.toList.any fun e => e.on == j && Region.binds .any e) = true) (hd : ds[j]? = some d) (hs : sp[j]? = some s) : s.holds W (t.getD d undef) := by
  rw [List.any_eq_true] at he
  obtain ⟨e, he, h2⟩ := he
  replace he : e ∈ o.after := by simpa using he
  simp only [Bool.and_eq_true, beq_iff_eq] at h2
  obtain ⟨rfl, hb⟩ := h2
  obtain ⟨d', hd', hS⟩ := h e he hb
  rw [hd] at hd'; cases hd'
  unfold specS at hS
  rw [hs] at hS; exact hS

/-- The guard is met. -/
def guardB (ds : List Tmp) (o : Oper) (j d : Nat) : Bool := (o.guard == none) || ((o.guard == some (j, true)) && (o.after.toList.any fun e => e.on == j && Region.binds .any e) && (ds[j]? == some d))

theorem getD_some {t : Array Value} {d : Nat} {v : Value} (h : t.getD d undef = v) (hv : v ≠ undef) : t[d]? = some v := by
  rw [Array.getD_eq_getD_getElem?] at h
  cases h' : t[d]? with
  | none => rw [h'] at h; exact absurd h.symm hv
  | some u => rw [h'] at h; exact congrArg some h

theorem stepOk_of {o : Oper} (hdB : dstB l0 ds m = true) (j d : Nat) (hg : guardB ds o j d = true) (hj : o.guard = none ∨ sp[j]? = some Spec.tru)
    (h : ∀ (t : Array Value) (W : World), t.size = m → Deps ds sp o t W → ∀ K : Act → World → Prop, (∀ v W', Below W.heap.size W W' → specS sp i W' v → K ((⟨t, df⟩ : Act).put o.dst v) W') → Oper.wpIn Fence.wide n Try.prog o ⟨t, df⟩ W K Q) :
    StepOk Fence.wide n Try.prog Q l0 ds m df base (specS sp) i o := by
  intro t W ht _ hdep K hK
  have hw : Region.wanted o (yielded l0.toArray t) = true := by
    unfold guardB at hg
    simp only [Bool.or_eq_true, Bool.and_eq_true, beq_iff_eq] at hg
    rcases hg with hg | ⟨⟨hg, he⟩, hd⟩
    · simp [Region.wanted, hg]
    · have hj' : sp[j]? = some Spec.tru := by
        rcases hj with hj | hj
        · rw [hg] at hj; cases hj
        · exact hj
      have hv : t.getD d undef = .bool true := Deps.get (sp := sp) hdep j d _ he hd hj'
      have hv' := getD_some hv (by intro e; cases e)
      simp only [dstB, Bool.and_eq_true, decide_eq_true_eq] at hdB
      have h1 := congrArg (fun l => l[j]?) hdB.1.1
      simp only [List.getElem?_map, hd, Option.map_some] at h1
      rw [Option.map_eq_some_iff] at h1
      obtain ⟨oj, hoj, hdj⟩ := h1
      simp [Region.wanted, hg, yielded, hoj, hdj, hv']
  rw [if_pos hw]
  exact h t W ht hdep K hK

/-- What an operand is, where its operation may come up. -/
def Is (ds : List Tmp) (sp : List Spec) (m : Nat) (df : List Deferred) (o : Oper) (x : Operand) (s : Spec) : Prop := ∀ (t : Array Value) (W : World), t.size = m → Deps ds sp o t W → s.holds W (Act.eval ⟨t, df⟩ x)
theorem is_const {o : Oper} (v : Value) : Is ds sp m df o (.const v) (.eq v) := fun _ _ _ _ => rfl
theorem is_nilrow {o : Oper} : Is ds sp m df o (.const (.slice none 0 0)) (.row []) := fun _ W _ _ => ⟨none, 0, rfl, Nat.le_refl _, ⟨rfl, by simp, fun h => absurd h (Nat.lt_irrefl 0)⟩, fun _ e => by cases e⟩
theorem is_nilstr {o : Oper} : Is ds sp m df o (.const (.slice none 0 0)) (.str []) := fun _ W _ _ => StrAt.nil W
theorem is_tmp {o : Oper} (j : Nat) {d : Tmp} {s : Spec} (he : (o.after.toList.any fun e => e.on == j && Region.binds .any e) = true) (hd : ds[j]? = some d) (hs : sp[j]? = some s) : Is ds sp m df o (.tmp d) s :=
  fun _ _ _ h => Deps.get h j d s he hd hs

theorem specS_mk {W : World} {v : Value} {s : Spec} (hs : sp[i]? = some s) (h : s.holds W v) : specS sp i W v := by
  unfold specS; rw [hs]; exact h

set_option maxHeartbeats 1600000 in
theorem step_bare (hdB : dstB l0 ds m = true) (j e : Nat) {d : Tmp} {ty : TypeId} {pos : String} {after : Array Edge} {guard : Option (Nat × Bool)} {x : Operand} (s : ByteArray)
    (hg : guardB ds ⟨some d, .call { callee := .value (.func 15), args := #[x], argTypes := #[9] }, ty, pos, after, guard⟩ j e = true) (hj : guard = none ∨ sp[j]? = some Spec.tru) (h1 : Is ds sp m df ⟨some d, .call { callee := .value (.func 15), args := #[x], argTypes := #[9] }, ty, pos, after, guard⟩ x (.eq (.string s))) (hs : sp[i]? = some (.row [⟨s, false, false⟩])) :
    StepOk Fence.wide n Try.prog Q l0 ds m df base (specS sp) i ⟨some d, .call { callee := .value (.func 15), args := #[x], argTypes := #[9] }, ty, pos, after, guard⟩ := by
  refine stepOk_of hdB j e hg hj fun t W ht hdep K hK => ?_
  have hro : Fence.wide.round = none := rfl
  have hf : ∀ f, Fence.wide.fn f := fun f => trivial
  have HS := Lib.hid hs
  have e1 := h1 t W ht hdep
  simp only [Spec.holds] at e1
  simp [go_sem] at e1
  clear hs hdep hg
  go_simp
  refine ⟨fun h => (by cases h), callsIn_wide.2 ((bare_walk s W).mono ?_)⟩
  rintro e w' ⟨v, rfl, hb, hr⟩
  exact hK v w' hb (specS_mk HS.out hr)

set_option maxHeartbeats 1600000 in
theorem step_quoted (hdB : dstB l0 ds m = true) (j e : Nat) {d : Tmp} {ty : TypeId} {pos : String} {after : Array Edge} {guard : Option (Nat × Bool)} {x : Operand} (s : ByteArray)
    (hg : guardB ds ⟨some d, .call { callee := .value (.func 23), args := #[x], argTypes := #[9] }, ty, pos, after, guard⟩ j e = true) (hj : guard = none ∨ sp[j]? = some Spec.tru) (h1 : Is ds sp m df ⟨some d, .call { callee := .value (.func 23), args := #[x], argTypes := #[9] }, ty, pos, after, guard⟩ x (.eq (.string s))) (hs : sp[i]? = some (.row [⟨s, true, false⟩])) :
    StepOk Fence.wide n Try.prog Q l0 ds m df base (specS sp) i ⟨some d, .call { callee := .value (.func 23), args := #[x], argTypes := #[9] }, ty, pos, after, guard⟩ := by
  refine stepOk_of hdB j e hg hj fun t W ht hdep K hK => ?_
  have hro : Fence.wide.round = none := rfl
  have hf : ∀ f, Fence.wide.fn f := fun f => trivial
  have HS := Lib.hid hs
  have e1 := h1 t W ht hdep
  simp only [Spec.holds] at e1
  simp [go_sem] at e1
  clear hs hdep hg
  go_simp
  refine ⟨fun h => (by cases h), callsIn_wide.2 ((quoted_walk s W).mono ?_)⟩
  rintro e w' ⟨v, rfl, hb, hr⟩
  exact hK v w' hb (specS_mk HS.out hr)

set_option maxHeartbeats 1600000 in
theorem step_three (hdB : dstB l0 ds m = true) (j e : Nat) {d : Tmp} {ty : TypeId} {pos : String} {after : Array Edge} {guard : Option (Nat × Bool)} {x y z : Operand} (a b c : ByteArray)
    (hg : guardB ds ⟨some d, .call { callee := .value (.func 16), args := #[x, y, z], argTypes := #[9, 9, 9] }, ty, pos, after, guard⟩ j e = true) (hj : guard = none ∨ sp[j]? = some Spec.tru) (h1 : Is ds sp m df ⟨some d, .call { callee := .value (.func 16), args := #[x, y, z], argTypes := #[9, 9, 9] }, ty, pos, after, guard⟩ x (.eq (.string a))) (h2 : Is ds sp m df ⟨some d, .call { callee := .value (.func 16), args := #[x, y, z], argTypes := #[9, 9, 9] }, ty, pos, after, guard⟩ y (.eq (.string b))) (h3 : Is ds sp m df ⟨some d, .call { callee := .value (.func 16), args := #[x, y, z], argTypes := #[9, 9, 9] }, ty, pos, after, guard⟩ z (.eq (.string c))) (hs : sp[i]? = some (.row [⟨a, false, false⟩, ⟨b, true, false⟩, ⟨c, false, false⟩])) :
    StepOk Fence.wide n Try.prog Q l0 ds m df base (specS sp) i ⟨some d, .call { callee := .value (.func 16), args := #[x, y, z], argTypes := #[9, 9, 9] }, ty, pos, after, guard⟩ := by
  refine stepOk_of hdB j e hg hj fun t W ht hdep K hK => ?_
  have hro : Fence.wide.round = none := rfl
  have hf : ∀ f, Fence.wide.fn f := fun f => trivial
  have HS := Lib.hid hs
  have e1 := h1 t W ht hdep
  simp only [Spec.holds] at e1
  simp [go_sem] at e1
  have e2 := h2 t W ht hdep
  simp only [Spec.holds] at e2
  simp [go_sem] at e2
  have e3 := h3 t W ht hdep
  simp only [Spec.holds] at e3
  simp [go_sem] at e3
  clear hs hdep hg
  go_simp
  refine ⟨fun h => (by cases h), callsIn_wide.2 ((three_walk a b c W).mono ?_)⟩
  rintro e w' ⟨v, rfl, hb, hr⟩
  exact hK v w' hb (specS_mk HS.out hr)

set_option maxHeartbeats 1600000 in
theorem step_rows (hdB : dstB l0 ds m = true) (j e : Nat) {d : Tmp} {ty : TypeId} {pos : String} {after : Array Edge} {guard : Option (Nat × Bool)} {x y z : Operand} (l : List Rn) (yes no : List ByteArray)
    (hg : guardB ds ⟨some d, .call { callee := .value (.func 24), args := #[x, y, z], argTypes := #[22, 38, 38] }, ty, pos, after, guard⟩ j e = true) (hj : guard = none ∨ sp[j]? = some Spec.tru) (h1 : Is ds sp m df ⟨some d, .call { callee := .value (.func 24), args := #[x, y, z], argTypes := #[22, 38, 38] }, ty, pos, after, guard⟩ x (.row l)) (h2 : Is ds sp m df ⟨some d, .call { callee := .value (.func 24), args := #[x, y, z], argTypes := #[22, 38, 38] }, ty, pos, after, guard⟩ y (.str yes)) (h3 : Is ds sp m df ⟨some d, .call { callee := .value (.func 24), args := #[x, y, z], argTypes := #[22, 38, 38] }, ty, pos, after, guard⟩ z (.str no)) (hR : rowsB l yes no = true) (hs : sp[i]? = some (.eq (.bool true))) :
    StepOk Fence.wide n Try.prog Q l0 ds m df base (specS sp) i ⟨some d, .call { callee := .value (.func 24), args := #[x, y, z], argTypes := #[22, 38, 38] }, ty, pos, after, guard⟩ := by
  refine stepOk_of hdB j e hg hj fun t W ht hdep K hK => ?_
  have hro : Fence.wide.round = none := rfl
  have hf : ∀ f, Fence.wide.fn f := fun f => trivial
  have HS := Lib.hid hs
  have e1 := Lib.hid (show RowAt W (Act.eval ⟨t, df⟩ x) l from h1 t W ht hdep)
  have e2 := Lib.hid (show StrAt W (Act.eval ⟨t, df⟩ y) yes from h2 t W ht hdep)
  have e3 := Lib.hid (show StrAt W (Act.eval ⟨t, df⟩ z) no from h3 t W ht hdep)
  obtain ⟨v1, hv1⟩ : ∃ v, v = Act.eval ⟨t, df⟩ x := ⟨_, rfl⟩
  obtain ⟨v2, hv2⟩ : ∃ v, v = Act.eval ⟨t, df⟩ y := ⟨_, rfl⟩
  obtain ⟨v3, hv3⟩ : ∃ v, v = Act.eval ⟨t, df⟩ z := ⟨_, rfl⟩
  rw [← hv1] at e1
  rw [← hv2] at e2
  rw [← hv3] at e3
  replace hv1 := hv1.symm
  replace hv2 := hv2.symm
  replace hv3 := hv3.symm
  simp [go_sem] at hv1 hv2 hv3
  clear hs hdep hg
  go_simp
  refine ⟨fun h => (by cases h), callsIn_wide.2 ((rows_true l yes no _ _ _ W e1.out e2.out e3.out hR).mono ?_)⟩
  rintro e w' ⟨rfl, hb⟩
  exact hK _ w' hb (specS_mk HS.out rfl)

set_option maxHeartbeats 1600000 in
theorem step_pick (hdB : dstB l0 ds m = true) (j e : Nat) {d : Tmp} {ty : TypeId} {pos : String} {after : Array Edge} {guard : Option (Nat × Bool)} {x y z : Operand}
    (hg : guardB ds ⟨some d, .pick x y z, ty, pos, after, guard⟩ j e = true) (hj : guard = none ∨ sp[j]? = some Spec.tru) (h1 : Is ds sp m df ⟨some d, .pick x y z, ty, pos, after, guard⟩ x .tru) (h2 : Is ds sp m df ⟨some d, .pick x y z, ty, pos, after, guard⟩ y .tru) (hs : sp[i]? = some (.eq (.bool true))) :
    StepOk Fence.wide n Try.prog Q l0 ds m df base (specS sp) i ⟨some d, .pick x y z, ty, pos, after, guard⟩ := by
  refine stepOk_of hdB j e hg hj fun t W ht hdep K hK => ?_
  have hro : Fence.wide.round = none := rfl
  have hf : ∀ f, Fence.wide.fn f := fun f => trivial
  have HS := Lib.hid hs
  have e1 := h1 t W ht hdep
  simp only [Spec.holds] at e1
  simp [go_sem] at e1
  have e2 := h2 t W ht hdep
  simp only [Spec.holds] at e2
  simp [go_sem] at e2
  clear hs hdep hg
  go_simp
  exact hK _ W (Below.refl _ _) (specS_mk HS.out rfl)

set_option maxHeartbeats 1600000 in
theorem step_move (hdB : dstB l0 ds m = true) (j e : Nat) {d : Tmp} {ty : TypeId} {pos : String} {after : Array Edge} {guard : Option (Nat × Bool)} {x : Operand} (v : Value)
    (hg : guardB ds ⟨some d, .move x, ty, pos, after, guard⟩ j e = true) (hj : guard = none ∨ sp[j]? = some Spec.tru) (h1 : Is ds sp m df ⟨some d, .move x, ty, pos, after, guard⟩ x (.eq v)) (hs : sp[i]? = some (.eq v)) :
    StepOk Fence.wide n Try.prog Q l0 ds m df base (specS sp) i ⟨some d, .move x, ty, pos, after, guard⟩ := by
  refine stepOk_of hdB j e hg hj fun t W ht hdep K hK => ?_
  have hro : Fence.wide.round = none := rfl
  have hf : ∀ f, Fence.wide.fn f := fun f => trivial
  have HS := Lib.hid hs
  have e1 := h1 t W ht hdep
  simp only [Spec.holds] at e1
  simp [go_sem] at e1
  clear hs hdep hg
  go_simp
  exact hK _ W (Below.refl _ _) (specS_mk HS.out rfl)

set_option maxHeartbeats 1600000 in
theorem step_assign (hdB : dstB l0 ds m = true) (j e : Nat) {d : Tmp} {ty : TypeId} {pos : String} {after : Array Edge} {guard : Option (Nat × Bool)} {x : Operand} (v : Value)
    (hg : guardB ds ⟨some d, .assign x, ty, pos, after, guard⟩ j e = true) (hj : guard = none ∨ sp[j]? = some Spec.tru) (h1 : Is ds sp m df ⟨some d, .assign x, ty, pos, after, guard⟩ x (.eq v)) (hs : sp[i]? = some (.eq v)) :
    StepOk Fence.wide n Try.prog Q l0 ds m df base (specS sp) i ⟨some d, .assign x, ty, pos, after, guard⟩ := by
  refine stepOk_of hdB j e hg hj fun t W ht hdep K hK => ?_
  have hro : Fence.wide.round = none := rfl
  have hf : ∀ f, Fence.wide.fn f := fun f => trivial
  have HS := Lib.hid hs
  have e1 := h1 t W ht hdep
  simp only [Spec.holds] at e1
  simp [go_sem] at e1
  clear hs hdep hg
  go_simp
  exact hK _ W (Below.refl _ _) (specS_mk HS.out rfl)

set_option maxHeartbeats 1600000 in
theorem step_str1 (hdB : dstB l0 ds m = true) (j e : Nat) {d : Tmp} {ty : TypeId} {pos : String} {after : Array Edge} {guard : Option (Nat × Bool)} {x0 : Operand} (s0 : ByteArray)
    (hg : guardB ds ⟨some d, .buildSlice 38 1 #[(0, x0)], ty, pos, after, guard⟩ j e = true) (hj : guard = none ∨ sp[j]? = some Spec.tru) (h0 : Is ds sp m df ⟨some d, .buildSlice 38 1 #[(0, x0)], ty, pos, after, guard⟩ x0 (.eq (.string s0))) (hs : sp[i]? = some (.str [s0])) :
    StepOk Fence.wide n Try.prog Q l0 ds m df base (specS sp) i ⟨some d, .buildSlice 38 1 #[(0, x0)], ty, pos, after, guard⟩ := by
  refine stepOk_of hdB j e hg hj fun t W ht hdep K hK => ?_
  have hro : Fence.wide.round = none := rfl
  have hf : ∀ f, Fence.wide.fn f := fun f => trivial
  have HS := Lib.hid hs
  have e0 := h0 t W ht hdep
  simp only [Spec.holds] at e0
  simp [go_sem] at e0
  clear hs hdep hg
  go_simp
  exact hK _ _ ((Below.refl _ W).alloc (Nat.le_refl _) _) (specS_mk HS.out (str_new W [s0] (by simp)))

set_option maxHeartbeats 1600000 in
theorem step_str2 (hdB : dstB l0 ds m = true) (j e : Nat) {d : Tmp} {ty : TypeId} {pos : String} {after : Array Edge} {guard : Option (Nat × Bool)} {x0 x1 : Operand} (s0 s1 : ByteArray)
    (hg : guardB ds ⟨some d, .buildSlice 38 2 #[(0, x0), (1, x1)], ty, pos, after, guard⟩ j e = true) (hj : guard = none ∨ sp[j]? = some Spec.tru) (h0 : Is ds sp m df ⟨some d, .buildSlice 38 2 #[(0, x0), (1, x1)], ty, pos, after, guard⟩ x0 (.eq (.string s0))) (h1 : Is ds sp m df ⟨some d, .buildSlice 38 2 #[(0, x0), (1, x1)], ty, pos, after, guard⟩ x1 (.eq (.string s1))) (hs : sp[i]? = some (.str [s0, s1])) :
    StepOk Fence.wide n Try.prog Q l0 ds m df base (specS sp) i ⟨some d, .buildSlice 38 2 #[(0, x0), (1, x1)], ty, pos, after, guard⟩ := by
  refine stepOk_of hdB j e hg hj fun t W ht hdep K hK => ?_
  have hro : Fence.wide.round = none := rfl
  have hf : ∀ f, Fence.wide.fn f := fun f => trivial
  have HS := Lib.hid hs
  have e0 := h0 t W ht hdep
  simp only [Spec.holds] at e0
  simp [go_sem] at e0
  have e1 := h1 t W ht hdep
  simp only [Spec.holds] at e1
  simp [go_sem] at e1
  clear hs hdep hg
  go_simp
  exact hK _ _ ((Below.refl _ W).alloc (Nat.le_refl _) _) (specS_mk HS.out (str_new W [s0, s1] (by simp)))

set_option maxHeartbeats 1600000 in
theorem step_str3 (hdB : dstB l0 ds m = true) (j e : Nat) {d : Tmp} {ty : TypeId} {pos : String} {after : Array Edge} {guard : Option (Nat × Bool)} {x0 x1 x2 : Operand} (s0 s1 s2 : ByteArray)
    (hg : guardB ds ⟨some d, .buildSlice 38 3 #[(0, x0), (1, x1), (2, x2)], ty, pos, after, guard⟩ j e = true) (hj : guard = none ∨ sp[j]? = some Spec.tru) (h0 : Is ds sp m df ⟨some d, .buildSlice 38 3 #[(0, x0), (1, x1), (2, x2)], ty, pos, after, guard⟩ x0 (.eq (.string s0))) (h1 : Is ds sp m df ⟨some d, .buildSlice 38 3 #[(0, x0), (1, x1), (2, x2)], ty, pos, after, guard⟩ x1 (.eq (.string s1))) (h2 : Is ds sp m df ⟨some d, .buildSlice 38 3 #[(0, x0), (1, x1), (2, x2)], ty, pos, after, guard⟩ x2 (.eq (.string s2))) (hs : sp[i]? = some (.str [s0, s1, s2])) :
    StepOk Fence.wide n Try.prog Q l0 ds m df base (specS sp) i ⟨some d, .buildSlice 38 3 #[(0, x0), (1, x1), (2, x2)], ty, pos, after, guard⟩ := by
  refine stepOk_of hdB j e hg hj fun t W ht hdep K hK => ?_
  have hro : Fence.wide.round = none := rfl
  have hf : ∀ f, Fence.wide.fn f := fun f => trivial
  have HS := Lib.hid hs
  have e0 := h0 t W ht hdep
  simp only [Spec.holds] at e0
  simp [go_sem] at e0
  have e1 := h1 t W ht hdep
  simp only [Spec.holds] at e1
  simp [go_sem] at e1
  have e2 := h2 t W ht hdep
  simp only [Spec.holds] at e2
  simp [go_sem] at e2
  clear hs hdep hg
  go_simp
  exact hK _ _ ((Below.refl _ W).alloc (Nat.le_refl _) _) (specS_mk HS.out (str_new W [s0, s1, s2] (by simp)))

set_option maxHeartbeats 1600000 in
theorem step_str4 (hdB : dstB l0 ds m = true) (j e : Nat) {d : Tmp} {ty : TypeId} {pos : String} {after : Array Edge} {guard : Option (Nat × Bool)} {x0 x1 x2 x3 : Operand} (s0 s1 s2 s3 : ByteArray)
    (hg : guardB ds ⟨some d, .buildSlice 38 4 #[(0, x0), (1, x1), (2, x2), (3, x3)], ty, pos, after, guard⟩ j e = true) (hj : guard = none ∨ sp[j]? = some Spec.tru) (h0 : Is ds sp m df ⟨some d, .buildSlice 38 4 #[(0, x0), (1, x1), (2, x2), (3, x3)], ty, pos, after, guard⟩ x0 (.eq (.string s0))) (h1 : Is ds sp m df ⟨some d, .buildSlice 38 4 #[(0, x0), (1, x1), (2, x2), (3, x3)], ty, pos, after, guard⟩ x1 (.eq (.string s1))) (h2 : Is ds sp m df ⟨some d, .buildSlice 38 4 #[(0, x0), (1, x1), (2, x2), (3, x3)], ty, pos, after, guard⟩ x2 (.eq (.string s2))) (h3 : Is ds sp m df ⟨some d, .buildSlice 38 4 #[(0, x0), (1, x1), (2, x2), (3, x3)], ty, pos, after, guard⟩ x3 (.eq (.string s3))) (hs : sp[i]? = some (.str [s0, s1, s2, s3])) :
    StepOk Fence.wide n Try.prog Q l0 ds m df base (specS sp) i ⟨some d, .buildSlice 38 4 #[(0, x0), (1, x1), (2, x2), (3, x3)], ty, pos, after, guard⟩ := by
  refine stepOk_of hdB j e hg hj fun t W ht hdep K hK => ?_
  have hro : Fence.wide.round = none := rfl
  have hf : ∀ f, Fence.wide.fn f := fun f => trivial
  have HS := Lib.hid hs
  have e0 := h0 t W ht hdep
  simp only [Spec.holds] at e0
  simp [go_sem] at e0
  have e1 := h1 t W ht hdep
  simp only [Spec.holds] at e1
  simp [go_sem] at e1
  have e2 := h2 t W ht hdep
  simp only [Spec.holds] at e2
  simp [go_sem] at e2
  have e3 := h3 t W ht hdep
  simp only [Spec.holds] at e3
  simp [go_sem] at e3
  clear hs hdep hg
  go_simp
  exact hK _ _ ((Below.refl _ W).alloc (Nat.le_refl _) _) (specS_mk HS.out (str_new W [s0, s1, s2, s3] (by simp)))

set_option maxHeartbeats 1600000 in
theorem step_str5 (hdB : dstB l0 ds m = true) (j e : Nat) {d : Tmp} {ty : TypeId} {pos : String} {after : Array Edge} {guard : Option (Nat × Bool)} {x0 x1 x2 x3 x4 : Operand} (s0 s1 s2 s3 s4 : ByteArray)
    (hg : guardB ds ⟨some d, .buildSlice 38 5 #[(0, x0), (1, x1), (2, x2), (3, x3), (4, x4)], ty, pos, after, guard⟩ j e = true) (hj : guard = none ∨ sp[j]? = some Spec.tru) (h0 : Is ds sp m df ⟨some d, .buildSlice 38 5 #[(0, x0), (1, x1), (2, x2), (3, x3), (4, x4)], ty, pos, after, guard⟩ x0 (.eq (.string s0))) (h1 : Is ds sp m df ⟨some d, .buildSlice 38 5 #[(0, x0), (1, x1), (2, x2), (3, x3), (4, x4)], ty, pos, after, guard⟩ x1 (.eq (.string s1))) (h2 : Is ds sp m df ⟨some d, .buildSlice 38 5 #[(0, x0), (1, x1), (2, x2), (3, x3), (4, x4)], ty, pos, after, guard⟩ x2 (.eq (.string s2))) (h3 : Is ds sp m df ⟨some d, .buildSlice 38 5 #[(0, x0), (1, x1), (2, x2), (3, x3), (4, x4)], ty, pos, after, guard⟩ x3 (.eq (.string s3))) (h4 : Is ds sp m df ⟨some d, .buildSlice 38 5 #[(0, x0), (1, x1), (2, x2), (3, x3), (4, x4)], ty, pos, after, guard⟩ x4 (.eq (.string s4))) (hs : sp[i]? = some (.str [s0, s1, s2, s3, s4])) :
    StepOk Fence.wide n Try.prog Q l0 ds m df base (specS sp) i ⟨some d, .buildSlice 38 5 #[(0, x0), (1, x1), (2, x2), (3, x3), (4, x4)], ty, pos, after, guard⟩ := by
  refine stepOk_of hdB j e hg hj fun t W ht hdep K hK => ?_
  have hro : Fence.wide.round = none := rfl
  have hf : ∀ f, Fence.wide.fn f := fun f => trivial
  have HS := Lib.hid hs
  have e0 := h0 t W ht hdep
  simp only [Spec.holds] at e0
  simp [go_sem] at e0
  have e1 := h1 t W ht hdep
  simp only [Spec.holds] at e1
  simp [go_sem] at e1
  have e2 := h2 t W ht hdep
  simp only [Spec.holds] at e2
  simp [go_sem] at e2
  have e3 := h3 t W ht hdep
  simp only [Spec.holds] at e3
  simp [go_sem] at e3
  have e4 := h4 t W ht hdep
  simp only [Spec.holds] at e4
  simp [go_sem] at e4
  clear hs hdep hg
  go_simp
  exact hK _ _ ((Below.refl _ W).alloc (Nat.le_refl _) _) (specS_mk HS.out (str_new W [s0, s1, s2, s3, s4] (by simp)))

end
end Go.Proofs.Ythbnnlhkcaomlaa.Gl
