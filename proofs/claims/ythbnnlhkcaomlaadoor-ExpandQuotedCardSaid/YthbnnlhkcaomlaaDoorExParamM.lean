/- Param, by its operator's method. -/
import Derived.Test.YthbnnlhkcaomlaaDoorExParam
namespace Go.Proofs.YthbnnlhkcaomlaaDoor.Ex
open Go.RowKit Go.Shelf Go.Proofs.YthbnnlhkcaomlaaDoorW.PrintWords Go.Proofs.YthbnnlhkcaomlaaDoor.Gl

/-- Where a row of runs is cut, and whether the piece that goes matches. -/
def cutAt (cs : List Ch) (op s : B) (i : Nat) : B × Bool :=
  if (op.data.toList.headD 0) = 35 then (s.extract i s.size, matchP (pieces cs) (s.extract 0 i).data.toList)
  else (s.extract 0 (s.size - i), matchP (pieces cs) (s.extract (s.size - i) s.size).data.toList)
def cutF (cs : List Ch) (op s : B) : Nat → Nat → B
  | 0, _ => s
  | k + 1, i => let j := if op.size = 2 then s.size - i else i
    if (cutAt cs op s j).2 then (cutAt cs op s j).1 else cutF cs op s k (i + 1)
def trimP (W : List PartT → EnvT → Option Ans) (x : ParamT) (y : FT) (e : EnvT) : Option Res :=
  (W x.p.word e).bind fun a => if a.2.1 ≠ 0 then some (a.2.1, y, a.2.2)
    else (flatP 0 a.1 []).bind fun out => if (charsOf out).length ≤ 1099511627776 ∧ x.value.size ≤ 1099511627776 ∧ 0 < x.p.op.size then tellP { x with value := cutF (charsOf out) x.p.op x.value (x.value.size + 1) 0 } y a.2.2 else none
def methodP (W : List PartT → EnvT → Option Ans) (x : ParamT) (y : FT) (e : EnvT) : Option Res :=
  if x.p.op = ⟨#[]⟩ then plainP x y e
  else if x.p.op = ⟨#[108, 101, 110]⟩ then sizeP x y e
  else if x.p.op = ⟨#[58, 45]⟩ ∨ x.p.op = ⟨#[45]⟩ then orElseP W x y e
  else if x.p.op = ⟨#[58, 43]⟩ ∨ x.p.op = ⟨#[43]⟩ then insteadP W x y e
  else if x.p.op = ⟨#[58, 61]⟩ ∨ x.p.op = ⟨#[61]⟩ then assignP W x y e
  else if x.p.op = ⟨#[58, 63]⟩ ∨ x.p.op = ⟨#[63]⟩ then mustP x y e
  else trimP W x y e
def knownOp (op : B) : Bool := opsL.any fun k => decide (op = k)
theorem knownOp_iff (op : B) : knownOp op = true ↔ op ∈ opsL := by simp [knownOp]
def paramP (W : List PartT → EnvT → Option Ans) (p : PartT) (y : FT) (e : EnvT) : Option Res :=
  (askP e p).bind fun r => if knownOp p.op = true then (if r.1.value.size ≤ bigT ∧ r.1.args.length < big then methodP W r.1 y r.2 else none) else some (2, y, r.2)

theorem ok_plain (deep : Int) (d : Nat) : MOk 26 plainP deep d := fun S E _ f g x A n c ba A2 c2 y y' e e' r w H HE _ _ _ hC _ _ h => plain_m S E f g deep x A n c ba A2 c2 y y' e e' r w H HE hC h
theorem ok_size (deep : Int) (d : Nat) : MOk 27 sizeP deep d := fun S E _ f g x A n c ba A2 c2 y y' e e' r w H HE _ _ _ _ hv hl h => size_m S E f g deep x A n c ba A2 c2 y y' e e' r w H HE hv hl h
theorem ok_must (deep : Int) (d : Nat) : MOk 31 mustP deep d := fun S E _ f g x A n c ba A2 c2 y y' e e' r w H HE _ _ _ _ _ _ h => must_m S E f g deep x A n c ba A2 _ c2 y y' e e' r w H HE h
section
variable {W : List PartT → EnvT → Option Ans} {deep : Int} {d : Nat} (hX : ExpandOk (deep + 1) d W) (hd0 : 0 ≤ deep) (hd1 : deep ≤ 30)
include hX hd0 hd1
theorem ok_orElse : MOk 28 (orElseP W) deep d := fun S E P f g x A n c ba A2 c2 y y' e e' r w H HE hw hc hP _ _ _ h => orElse_m hX hd0 hd1 S E P f g x A n c ba A2 _ c2 y y' e e' r w H HE hw hc hP h
theorem ok_instead : MOk 29 (insteadP W) deep d := fun S E P f g x A n c ba A2 c2 y y' e e' r w H HE hw hc hP _ _ _ h => instead_m hX hd0 hd1 S E P f g x A n c ba A2 _ c2 y y' e e' r w H HE hw hc hP h
theorem ok_assign : MOk 30 (assignP W) deep d := fun S E P f g x A n c ba A2 c2 y y' e e' r w H HE hw hc hP _ _ _ h => assign_m hX hd0 hd1 S E P f g x A n c ba A2 _ c2 y y' e e' r w H HE hw hc hP h
/-- Param, where trim holds its contract too. -/
theorem param_m (hT : MOk 32 (trimP W) deep d) (S E P : Nat → Prop) (f g : Nat) (p : PartT) (A : Option Addr) (n c : Nat) (ba : Option Addr) (y y' : FT) (e e' : EnvT) (r : Int) (w : World) (H : FldAt S w f g deep y) (HE : EnvAt E w g e)
    (hw : WordAt d P w A n p.word) (hc : n ≤ c) (hP : ∀ k, P k → ¬ E k) (h : paramP W p y e = some (r, y', e')) :
    Calls Tryd.prog 21 #[.pointer (some ⟨f, 0, none⟩), partV p (.slice A n c) (.pointer ba)] w fun en w' => en = .returned (.int .i64 r) ∧ MPost S E w f g deep y' e' w' := by
  obtain ⟨k, t, op, q, pw, pb⟩ := p
  unfold paramP at h
  rw [Option.bind_eq_some_iff] at h
  obtain ⟨⟨x, e1⟩, hx, h⟩ := h
  have hxp : x.p = .mk k t op q pw pb := by
    obtain ⟨v, st, l, -, hx⟩ := askP_some hx
    rw [hx]
  have h : (if knownOp op = true then (if x.value.size ≤ bigT ∧ x.args.length < big then methodP W x y e1 else none) else some (2, y, e1)) = some (r, y', e') := h
  by_cases hop : op ∈ opsL
  · rw [if_pos ((knownOp_iff op).2 hop)] at h
    split at h
    · rename_i hb
      obtain ⟨hv, hl⟩ := hb
      have hxo : x.p.op = op := by rw [hxp]; rfl
      unfold methodP at h
      rw [hxo] at h
      unfold opsL at hop
      simp only [List.mem_cons, List.not_mem_nil, or_false] at hop
      rcases hop with ho | ho | ho | ho | ho | ho | ho | ho | ho | ho | ho | ho | ho | ho
      · subst ho; exact param_0 (ok_plain deep d) S E P f g k t q pw pb A n c ba y y' e e1 e' x r w H HE hw hc hP hx hv hl (by simpa using h)
      · subst ho; exact param_1 (ok_size deep d) S E P f g k t q pw pb A n c ba y y' e e1 e' x r w H HE hw hc hP hx hv hl (by simpa using h)
      · subst ho; exact param_2 (ok_orElse hX hd0 hd1) S E P f g k t q pw pb A n c ba y y' e e1 e' x r w H HE hw hc hP hx hv hl (by simpa using h)
      · subst ho; exact param_3 (ok_orElse hX hd0 hd1) S E P f g k t q pw pb A n c ba y y' e e1 e' x r w H HE hw hc hP hx hv hl (by simpa using h)
      · subst ho; exact param_4 (ok_instead hX hd0 hd1) S E P f g k t q pw pb A n c ba y y' e e1 e' x r w H HE hw hc hP hx hv hl (by simpa using h)
      · subst ho; exact param_5 (ok_instead hX hd0 hd1) S E P f g k t q pw pb A n c ba y y' e e1 e' x r w H HE hw hc hP hx hv hl (by simpa using h)
      · subst ho; exact param_6 (ok_assign hX hd0 hd1) S E P f g k t q pw pb A n c ba y y' e e1 e' x r w H HE hw hc hP hx hv hl (by simpa using h)
      · subst ho; exact param_7 (ok_assign hX hd0 hd1) S E P f g k t q pw pb A n c ba y y' e e1 e' x r w H HE hw hc hP hx hv hl (by simpa using h)
      · subst ho; exact param_8 (ok_must deep d) S E P f g k t q pw pb A n c ba y y' e e1 e' x r w H HE hw hc hP hx hv hl (by simpa using h)
      · subst ho; exact param_9 (ok_must deep d) S E P f g k t q pw pb A n c ba y y' e e1 e' x r w H HE hw hc hP hx hv hl (by simpa using h)
      · subst ho; exact param_10 hT S E P f g k t q pw pb A n c ba y y' e e1 e' x r w H HE hw hc hP hx hv hl (by simpa using h)
      · subst ho; exact param_11 hT S E P f g k t q pw pb A n c ba y y' e e1 e' x r w H HE hw hc hP hx hv hl (by simpa using h)
      · subst ho; exact param_12 hT S E P f g k t q pw pb A n c ba y y' e e1 e' x r w H HE hw hc hP hx hv hl (by simpa using h)
      · subst ho; exact param_13 hT S E P f g k t q pw pb A n c ba y y' e e1 e' x r w H HE hw hc hP hx hv hl (by simpa using h)
    · cases h
  · rw [if_neg (fun hk => hop ((knownOp_iff op).1 hk))] at h
    obtain ⟨rfl, rfl, rfl⟩ : (2 : Int) = r ∧ y = y' ∧ e1 = e' := by cases h; exact ⟨rfl, rfl, rfl⟩
    exact param_none S E f g deep k t op q pw pb A n c ba y e e1 x w H HE hx hop
end

end Go.Proofs.YthbnnlhkcaomlaaDoor.Ex
