/- The walks of other, orElse and instead: the methods that expand the parameter's word. -/
import Derived.Test.YthbnnlhkcaomlaaDoorExWord
import Derived.Test.YthbnnlhkcaomlaaDoorExPlainM
namespace Go.Proofs.YthbnnlhkcaomlaaDoor.Ex
open Go.RowKit Go.Shelf Go.Proofs.YthbnnlhkcaomlaaDoorW.PrintWords Go.Proofs.YthbnnlhkcaomlaaDoor.Gl

set_option maxHeartbeats 1600000 in
set_option maxRecDepth 100000 in
theorem other_m {W : List PartT → EnvT → Option Ans} {deep : Int} {d : Nat} (hX : ExpandOk (deep + 1) d W) (hd0 : 0 ≤ deep) (hd1 : deep ≤ 30) (S E P : Nat → Prop) (f g : Nat) (x : ParamT) (A : Option Addr) (n c : Nat) (ba : Option Addr) (A2 : Option Addr) (n2 c2 : Nat) (y y' : FT) (e e' : EnvT) (r : Int) (w : World) (H : FldAt S w f g deep y) (HE : EnvAt E w g e)
    (hw : WordAt d P w A n x.p.word) (hc : n ≤ c) (hP : ∀ k, P k → ¬ E k) (h : otherP W x y e = some (r, y', e')) :
    Calls Tryd.prog 40 #[.pointer (some ⟨f, 0, none⟩), paramV x (.slice A n c) (.pointer ba) (.slice A2 n2 c2)] w fun en w' => en = .returned (.int .i64 r) ∧ MPost S E w f g deep y' e' w' := by
  obtain ⟨p, v, st, l, mi⟩ := x
  unfold otherP at h
  rw [Option.bind_eq_some_iff] at h
  obtain ⟨a, ha, h⟩ := h
  rw [Option.map_eq_some_iff] at h
  obtain ⟨z, hz, he⟩ := h
  cases he
  have HH := Lib.hid (And.intro H HE)
  have HX := Lib.hid hX
  have HW := Lib.hid (And.intro hw (And.intro hc (And.intro hP ha)))
  have HJ := Lib.hid hz
  clear hX hw hc hP ha hz H HE
  unfold paramV
  go_enter Tryd.func40, Tryd.ntmps40
  go_wp2_with (first
    | (go_at_call 41; refine (word_m HX.out hd0 hd1 S E P f g p A n c ba y e a _ (FldAt.below HH.out.1 (below_a _ _)) (EnvAt.below HH.out.2 (below_a _ _)) (WordAt.below HW.out.1 (below_a _ _)) HW.out.2.1 HW.out.2.2.1 HW.out.2.2.2).mono ?_; rintro en w1 ⟨A1, n1, c1, E', rfl, k2, k3, k4, k5, k6⟩; have HK := Lib.hid (And.intro k2 (And.intro k4 (And.intro k5 k6))); clear k2 k3 k4 k5 k6)
    | (go_at_call 39; refine (join_walk S f g deep y y' a.1 _ A1 n1 c1 _ (FldAt.env_of (FldAt.below HH.out.1 (below_a _ _)) (EnvAt.below HH.out.2 (below_a _ _)) HK.out.2.2.1) HK.out.1 (fun k hk hs => fld_lt HH.out.1 (Nat.le_trans (by simp) hk.1) hs) HJ.out).mono ?_; rintro en w2 ⟨rfl, h2⟩; have H2 := Lib.hid h2; clear h2))
  go_ret
  exact ⟨rfl, .before (below_a _ _) (.after_env HK.out.2.2.1 HK.out.2.2.2 (.of_fld (FldAt.env_of (FldAt.below HH.out.1 (below_a _ _)) (EnvAt.below HH.out.2 (below_a _ _)) HK.out.2.2.1) HK.out.2.1 H2.out))⟩

set_option maxHeartbeats 1600000 in
set_option maxRecDepth 100000 in
theorem orElse_m {W : List PartT → EnvT → Option Ans} {deep : Int} {d : Nat} (hX : ExpandOk (deep + 1) d W) (hd0 : 0 ≤ deep) (hd1 : deep ≤ 30) (S E P : Nat → Prop) (f g : Nat) (x : ParamT) (A : Option Addr) (n c : Nat) (ba : Option Addr) (A2 : Option Addr) (n2 c2 : Nat) (y y' : FT) (e e' : EnvT) (r : Int) (w : World) (H : FldAt S w f g deep y) (HE : EnvAt E w g e)
    (hw : WordAt d P w A n x.p.word) (hc : n ≤ c) (hP : ∀ k, P k → ¬ E k) (h : orElseP W x y e = some (r, y', e')) :
    Calls Tryd.prog 28 #[.pointer (some ⟨f, 0, none⟩), paramV x (.slice A n c) (.pointer ba) (.slice A2 n2 c2)] w fun en w' => en = .returned (.int .i64 r) ∧ MPost S E w f g deep y' e' w' := by
  obtain ⟨p, v, st, l, mi⟩ := x
  have HH := Lib.hid (And.intro H HE)
  have HX := Lib.hid hX
  have HW := Lib.hid (And.intro hw (And.intro hc hP))
  clear hX hw hc hP H HE
  unfold orElseP at h
  cases mi with
  | true =>
    have HT := Lib.hid (show otherP W ⟨p, v, st, l, true⟩ y e = some (r, y', e') from h)
    clear h
    unfold paramV
    go_enter Tryd.func28, Tryd.ntmps28
    go_wp2_with (go_at_call 40; refine (other_m HX.out hd0 hd1 S E P f g ⟨p, v, st, l, true⟩ A n c ba A2 n2 c2 y y' e e' r _ (FldAt.below HH.out.1 (below_a _ _)) (EnvAt.below HH.out.2 (below_a _ _)) (WordAt.below HW.out.1 (below_a _ _)) HW.out.2.1 HW.out.2.2 HT.out).mono ?_; rintro en w1 ⟨rfl, h1⟩; have H1 := Lib.hid h1; clear h1)
    go_ret
    exact ⟨rfl, .before (below_a _ _) H1.out⟩
  | false =>
    have HT := Lib.hid (show tellP ⟨p, v, st, l, false⟩ y e = some (r, y', e') from h)
    clear h
    unfold paramV
    go_enter Tryd.func28, Tryd.ntmps28
    go_wp2_with (go_at_call 38; refine (tell_m S E f g deep ⟨p, v, st, l, false⟩ A n c ba A2 n2 c2 y y' e e' r _ (FldAt.below HH.out.1 (below_a _ _)) (EnvAt.below HH.out.2 (below_a _ _)) HT.out).mono ?_; rintro en w1 ⟨rfl, h1⟩; have H1 := Lib.hid h1; clear h1)
    go_ret
    exact ⟨rfl, .before (below_a _ _) H1.out⟩

set_option maxHeartbeats 1600000 in
set_option maxRecDepth 100000 in
theorem instead_m {W : List PartT → EnvT → Option Ans} {deep : Int} {d : Nat} (hX : ExpandOk (deep + 1) d W) (hd0 : 0 ≤ deep) (hd1 : deep ≤ 30) (S E P : Nat → Prop) (f g : Nat) (x : ParamT) (A : Option Addr) (n c : Nat) (ba : Option Addr) (A2 : Option Addr) (n2 c2 : Nat) (y y' : FT) (e e' : EnvT) (r : Int) (w : World) (H : FldAt S w f g deep y) (HE : EnvAt E w g e)
    (hw : WordAt d P w A n x.p.word) (hc : n ≤ c) (hP : ∀ k, P k → ¬ E k) (h : insteadP W x y e = some (r, y', e')) :
    Calls Tryd.prog 29 #[.pointer (some ⟨f, 0, none⟩), paramV x (.slice A n c) (.pointer ba) (.slice A2 n2 c2)] w fun en w' => en = .returned (.int .i64 r) ∧ MPost S E w f g deep y' e' w' := by
  obtain ⟨p, v, st, l, mi⟩ := x
  have HH := Lib.hid (And.intro H HE)
  have HX := Lib.hid hX
  have HW := Lib.hid (And.intro hw (And.intro hc hP))
  clear hX hw hc hP H HE
  unfold insteadP at h
  cases mi with
  | true =>
    cases h
    unfold paramV
    go_enter Tryd.func29, Tryd.ntmps29
    go_wp2
    go_ret
    exact ⟨rfl, .same HH.out.1 HH.out.2 (below_a _ _)⟩
  | false =>
    have HT := Lib.hid (show otherP W ⟨p, v, st, l, false⟩ y e = some (r, y', e') from h)
    clear h
    unfold paramV
    go_enter Tryd.func29, Tryd.ntmps29
    go_wp2_with (go_at_call 40; refine (other_m HX.out hd0 hd1 S E P f g ⟨p, v, st, l, false⟩ A n c ba A2 n2 c2 y y' e e' r _ (FldAt.below HH.out.1 (below_a _ _)) (EnvAt.below HH.out.2 (below_a _ _)) (WordAt.below HW.out.1 (below_a _ _)) HW.out.2.1 HW.out.2.2 HT.out).mono ?_; rintro en w1 ⟨rfl, h1⟩; have H1 := Lib.hid h1; clear h1)
    go_ret
    exact ⟨rfl, .before (below_a _ _) H1.out⟩

end Go.Proofs.YthbnnlhkcaomlaaDoor.Ex
