/- The walk of param, once for each operator (printed by wip/gen-param.py). -/
import Derived.Test.YthbnnlhkcaomlaaDoorExMap
namespace Go.Proofs.YthbnnlhkcaomlaaDoor.Ex
open Go.RowKit Go.Shelf Go.Proofs.YthbnnlhkcaomlaaDoorW.PrintWords Go.Proofs.YthbnnlhkcaomlaaDoor.Gl

theorem BodyAt.lt {P : Nat → Prop} {w : World} {b : Option (B × Bool)} {v : Value} (h : BodyAt P w b v) : BodyAt (fun k => P k ∧ k < w.heap.size) w b v := by
  rcases b with _ | ⟨n, no⟩
  · exact h
  · obtain ⟨ad, e, h1, h2, h3⟩ := h
    exact ⟨ad, e, h1, h2, h3, World.block_lt_of_cell? w ⟨ad.block, ad.off + 1, none⟩ h1⟩
theorem PartAt.lt {P : Nat → Prop} {w : World} : ∀ (d : Nat) (p : PartT) (cs : List Value), PartAt d P w p cs → PartAt d (fun k => P k ∧ k < w.heap.size) w p cs
  | 0, _, _, h => h.elim
  | d + 1, p, cs, ⟨A, n, c, ba, e, hc, ⟨h1, h2, h3⟩, hb⟩ => ⟨A, n, c, ba, e, hc, ⟨h1, h2, fun hn => by
      obtain ⟨ad, ea, hp, hq⟩ := h3 hn
      refine ⟨ad, ea, ⟨hp, ?_⟩, fun j q hj => ?_⟩
      · obtain ⟨qs, hl, hpa, hcell⟩ := hq 0 _ (List.getElem?_eq_getElem (by omega))
        have := World.block_lt_of_cell? _ _ (hcell 0 _ (List.getElem?_eq_getElem (by omega)))
        rwa [add_block] at this
      · obtain ⟨qs, hl, hpa, hcell⟩ := hq j q hj
        exact ⟨qs, hl, PartAt.lt d q qs hpa, hcell⟩⟩, hb.lt⟩
theorem WordAt.lt {d : Nat} {P : Nat → Prop} {w : World} {A : Option Addr} {n : Nat} {ps : List PartT} (h : WordAt d P w A n ps) : WordAt d (fun k => P k ∧ k < w.heap.size) w A n ps :=
  ⟨h.1, h.2.1, fun hn => by
    obtain ⟨ad, ea, hp, hq⟩ := h.2.2 hn
    refine ⟨ad, ea, ⟨hp, ?_⟩, fun j q hj => ?_⟩
    · have := h.1
      obtain ⟨qs, hl, hpa, hcell⟩ := hq 0 _ (List.getElem?_eq_getElem (by omega))
      have := World.block_lt_of_cell? _ _ (hcell 0 _ (List.getElem?_eq_getElem (by omega)))
      rwa [add_block] at this
    · obtain ⟨qs, hl, hpa, hcell⟩ := hq j q hj
      exact ⟨qs, hl, PartAt.lt d q qs hpa, hcell⟩⟩

/-- What is asked of a parameter's method. -/
def MOk (fn : Nat) (M : ParamT → FT → EnvT → Option Res) (deep : Int) (d : Nat) : Prop :=
  ∀ (S E P : Nat → Prop) (f g : Nat) (x : ParamT) (A : Option Addr) (n c : Nat) (ba : Option Addr) (A2 : Option Addr) (c2 : Nat) (y y' : FT) (e e' : EnvT) (r : Int) (w : World), FldAt S w f g deep y → EnvAt E w g e → WordAt d P w A n x.p.word → n ≤ c → (∀ k, P k → ¬ E k) → Kd.string.C w A2 x.args.length x.args → x.value.size ≤ bigT → x.args.length < big → M x y e = some (r, y', e') →
    Calls Tryd.prog fn #[.pointer (some ⟨f, 0, none⟩), paramV x (.slice A n c) (.pointer ba) (.slice A2 x.args.length c2)] w fun en w' => en = .returned (.int .i64 r) ∧ MPost S E w f g deep y' e' w'
theorem two_below (w : World) (o1 o2 : Obj) : Below w.heap.size w ((w.alloc o1).alloc o2) := (below_a w o1).trans ((below_a _ o2).mono (by simp))
theorem two_below' {w W : World} (o1 o2 : Obj) (h : Below w.heap.size w W) : Below w.heap.size w ((W.alloc o1).alloc o2) := h.trans ((two_below W o1 o2).mono h.size)
attribute [local go_sem] ins_0 ins_1 ins_2 ins_3 ins_4 ins_5 ins_6 ins_7 ins_8 ins_9 ins_10 ins_11 ins_12 ins_13 got_0 got_1 got_2 got_3 got_4 got_5 got_6 got_7 got_8 got_9 got_10 got_11 got_12 got_13 got_none

set_option maxHeartbeats 3200000 in
set_option maxRecDepth 100000 in
theorem param_0 {M : ParamT → FT → EnvT → Option Res} {deep : Int} {d : Nat} (hM : MOk 26 M deep d) (S E P : Nat → Prop) (f g : Nat) (k : Int) (t : B) (q : Bool) (pw : List PartT) (pb : Option (B × Bool)) (A : Option Addr) (n c : Nat) (ba : Option Addr) (y y' : FT) (e e1 e' : EnvT) (x : ParamT) (r : Int) (w : World) (H : FldAt S w f g deep y) (HE : EnvAt E w g e)
    (hw : WordAt d P w A n pw) (hc : n ≤ c) (hP : ∀ k, P k → ¬ E k) (hx : askP e (.mk k t ⟨#[]⟩ q pw pb) = some (x, e1)) (hv : x.value.size ≤ bigT) (hl : x.args.length < big) (h : M x y e1 = some (r, y', e')) :
    Calls Tryd.prog 21 #[.pointer (some ⟨f, 0, none⟩), partV (.mk k t ⟨#[]⟩ q pw pb) (.slice A n c) (.pointer ba)] w fun en w' => en = .returned (.int .i64 r) ∧ MPost S E w f g deep y' e' w' := by
  have hxp : x.p = .mk k t ⟨#[]⟩ q pw pb := by
    obtain ⟨v, st, l, -, hx⟩ := askP_some hx
    rw [hx]
  obtain ⟨xp, xv, xs, xa, xm⟩ := x
  dsimp only at hxp hv hl
  subst hxp
  have HH := Lib.hid (And.intro H HE)
  have HAS := Lib.hid hx
  have HM := Lib.hid (And.intro hM h)
  have HW := Lib.hid (And.intro hw (And.intro hc hP))
  have HB := Lib.hid (And.intro hv hl)
  have hmm := @run_makeMap Tryd.prog
  clear h H HE hx hM hw hc hP hv hl
  unfold partV
  simp only [PartT.kind, PartT.text, PartT.op, PartT.quoted]
  go_enter Tryd.func21, Tryd.ntmps21
  go_wp2_with (first
    | (go_at_call 25; refine (ask_walk S E f g deep y e e1 (.mk k t ⟨#[]⟩ q pw pb) A n c ba _ _ (FldAt.below HH.out.1 (below_a _ _)) (EnvAt.below HH.out.2 (below_a _ _)) HAS.out).mono ?_; rintro en w1 ⟨av, E', rfl, ⟨A2, n2, c2, rfl, rfl, h5, h6, h7⟩, h2, h3, h4⟩; have HO := Lib.hid (keep_obj HH.out.2 h3 (Nat.le_refl _) (heap_alloc_new w _)); obtain ⟨q1, q2, q3⟩ := box_cells HO.out; have H1 := Lib.hid (And.intro h2 (And.intro h3 (And.intro h4 h6))); clear h2 h3 h4 h5 h6 h7; unfold paramV; simp only [PartT.kind, PartT.text, PartT.op, PartT.quoted])
    | (go_at_call 26; refine (HM.out.1 S E' (fun k => P k ∧ k < w.heap.size) f g ⟨.mk k t ⟨#[]⟩ q pw pb, xv, xs, xa, xm⟩ A n c ba A2 c2 y y' e1 e' r _ (FldAt.below (FldAt.env_of (FldAt.below HH.out.1 (below_a _ _)) (EnvAt.below HH.out.2 (below_a _ _)) H1.out.2.1) (two_below _ _ _)) (EnvAt.below H1.out.1 (two_below _ _ _)) (WordAt.below (WordAt.mod (WordAt.below (WordAt.lt HW.out.1) (below_a _ _)) H1.out.2.1 (fun k hk => HW.out.2.2 k hk.1)) (two_below _ _ _)) HW.out.2.1 (fun k hk he => HW.out.2.2 k hk.1 (H1.out.2.2.1 k (Nat.lt_of_lt_of_le hk.2 (by simp)) he)) (Kd.C_below H1.out.2.2.2 (two_below _ _ _)) HB.out.1 HB.out.2 HM.out.2).mono ?_; rintro en w2 ⟨rfl, h1⟩; have H2 := Lib.hid h1; clear h1))
  go_ret
  exact ⟨rfl, .before (below_a _ _) (.after_env H1.out.2.1 H1.out.2.2.1 (.before (two_below _ _ _) H2.out))⟩

set_option maxHeartbeats 3200000 in
set_option maxRecDepth 100000 in
theorem param_1 {M : ParamT → FT → EnvT → Option Res} {deep : Int} {d : Nat} (hM : MOk 27 M deep d) (S E P : Nat → Prop) (f g : Nat) (k : Int) (t : B) (q : Bool) (pw : List PartT) (pb : Option (B × Bool)) (A : Option Addr) (n c : Nat) (ba : Option Addr) (y y' : FT) (e e1 e' : EnvT) (x : ParamT) (r : Int) (w : World) (H : FldAt S w f g deep y) (HE : EnvAt E w g e)
    (hw : WordAt d P w A n pw) (hc : n ≤ c) (hP : ∀ k, P k → ¬ E k) (hx : askP e (.mk k t ⟨#[108, 101, 110]⟩ q pw pb) = some (x, e1)) (hv : x.value.size ≤ bigT) (hl : x.args.length < big) (h : M x y e1 = some (r, y', e')) :
    Calls Tryd.prog 21 #[.pointer (some ⟨f, 0, none⟩), partV (.mk k t ⟨#[108, 101, 110]⟩ q pw pb) (.slice A n c) (.pointer ba)] w fun en w' => en = .returned (.int .i64 r) ∧ MPost S E w f g deep y' e' w' := by
  have hxp : x.p = .mk k t ⟨#[108, 101, 110]⟩ q pw pb := by
    obtain ⟨v, st, l, -, hx⟩ := askP_some hx
    rw [hx]
  obtain ⟨xp, xv, xs, xa, xm⟩ := x
  dsimp only at hxp hv hl
  subst hxp
  have HH := Lib.hid (And.intro H HE)
  have HAS := Lib.hid hx
  have HM := Lib.hid (And.intro hM h)
  have HW := Lib.hid (And.intro hw (And.intro hc hP))
  have HB := Lib.hid (And.intro hv hl)
  have hmm := @run_makeMap Tryd.prog
  clear h H HE hx hM hw hc hP hv hl
  unfold partV
  simp only [PartT.kind, PartT.text, PartT.op, PartT.quoted]
  go_enter Tryd.func21, Tryd.ntmps21
  go_wp2_with (first
    | (go_at_call 25; refine (ask_walk S E f g deep y e e1 (.mk k t ⟨#[108, 101, 110]⟩ q pw pb) A n c ba _ _ (FldAt.below HH.out.1 (below_a _ _)) (EnvAt.below HH.out.2 (below_a _ _)) HAS.out).mono ?_; rintro en w1 ⟨av, E', rfl, ⟨A2, n2, c2, rfl, rfl, h5, h6, h7⟩, h2, h3, h4⟩; have HO := Lib.hid (keep_obj HH.out.2 h3 (Nat.le_refl _) (heap_alloc_new w _)); obtain ⟨q1, q2, q3⟩ := box_cells HO.out; have H1 := Lib.hid (And.intro h2 (And.intro h3 (And.intro h4 h6))); clear h2 h3 h4 h5 h6 h7; unfold paramV; simp only [PartT.kind, PartT.text, PartT.op, PartT.quoted])
    | (go_at_call 27; refine (HM.out.1 S E' (fun k => P k ∧ k < w.heap.size) f g ⟨.mk k t ⟨#[108, 101, 110]⟩ q pw pb, xv, xs, xa, xm⟩ A n c ba A2 c2 y y' e1 e' r _ (FldAt.below (FldAt.env_of (FldAt.below HH.out.1 (below_a _ _)) (EnvAt.below HH.out.2 (below_a _ _)) H1.out.2.1) (two_below _ _ _)) (EnvAt.below H1.out.1 (two_below _ _ _)) (WordAt.below (WordAt.mod (WordAt.below (WordAt.lt HW.out.1) (below_a _ _)) H1.out.2.1 (fun k hk => HW.out.2.2 k hk.1)) (two_below _ _ _)) HW.out.2.1 (fun k hk he => HW.out.2.2 k hk.1 (H1.out.2.2.1 k (Nat.lt_of_lt_of_le hk.2 (by simp)) he)) (Kd.C_below H1.out.2.2.2 (two_below _ _ _)) HB.out.1 HB.out.2 HM.out.2).mono ?_; rintro en w2 ⟨rfl, h1⟩; have H2 := Lib.hid h1; clear h1))
  go_ret
  exact ⟨rfl, .before (below_a _ _) (.after_env H1.out.2.1 H1.out.2.2.1 (.before (two_below _ _ _) H2.out))⟩

set_option maxHeartbeats 3200000 in
set_option maxRecDepth 100000 in
theorem param_2 {M : ParamT → FT → EnvT → Option Res} {deep : Int} {d : Nat} (hM : MOk 28 M deep d) (S E P : Nat → Prop) (f g : Nat) (k : Int) (t : B) (q : Bool) (pw : List PartT) (pb : Option (B × Bool)) (A : Option Addr) (n c : Nat) (ba : Option Addr) (y y' : FT) (e e1 e' : EnvT) (x : ParamT) (r : Int) (w : World) (H : FldAt S w f g deep y) (HE : EnvAt E w g e)
    (hw : WordAt d P w A n pw) (hc : n ≤ c) (hP : ∀ k, P k → ¬ E k) (hx : askP e (.mk k t ⟨#[58, 45]⟩ q pw pb) = some (x, e1)) (hv : x.value.size ≤ bigT) (hl : x.args.length < big) (h : M x y e1 = some (r, y', e')) :
    Calls Tryd.prog 21 #[.pointer (some ⟨f, 0, none⟩), partV (.mk k t ⟨#[58, 45]⟩ q pw pb) (.slice A n c) (.pointer ba)] w fun en w' => en = .returned (.int .i64 r) ∧ MPost S E w f g deep y' e' w' := by
  have hxp : x.p = .mk k t ⟨#[58, 45]⟩ q pw pb := by
    obtain ⟨v, st, l, -, hx⟩ := askP_some hx
    rw [hx]
  obtain ⟨xp, xv, xs, xa, xm⟩ := x
  dsimp only at hxp hv hl
  subst hxp
  have HH := Lib.hid (And.intro H HE)
  have HAS := Lib.hid hx
  have HM := Lib.hid (And.intro hM h)
  have HW := Lib.hid (And.intro hw (And.intro hc hP))
  have HB := Lib.hid (And.intro hv hl)
  have hmm := @run_makeMap Tryd.prog
  clear h H HE hx hM hw hc hP hv hl
  unfold partV
  simp only [PartT.kind, PartT.text, PartT.op, PartT.quoted]
  go_enter Tryd.func21, Tryd.ntmps21
  go_wp2_with (first
    | (go_at_call 25; refine (ask_walk S E f g deep y e e1 (.mk k t ⟨#[58, 45]⟩ q pw pb) A n c ba _ _ (FldAt.below HH.out.1 (below_a _ _)) (EnvAt.below HH.out.2 (below_a _ _)) HAS.out).mono ?_; rintro en w1 ⟨av, E', rfl, ⟨A2, n2, c2, rfl, rfl, h5, h6, h7⟩, h2, h3, h4⟩; have HO := Lib.hid (keep_obj HH.out.2 h3 (Nat.le_refl _) (heap_alloc_new w _)); obtain ⟨q1, q2, q3⟩ := box_cells HO.out; have H1 := Lib.hid (And.intro h2 (And.intro h3 (And.intro h4 h6))); clear h2 h3 h4 h5 h6 h7; unfold paramV; simp only [PartT.kind, PartT.text, PartT.op, PartT.quoted])
    | (go_at_call 28; refine (HM.out.1 S E' (fun k => P k ∧ k < w.heap.size) f g ⟨.mk k t ⟨#[58, 45]⟩ q pw pb, xv, xs, xa, xm⟩ A n c ba A2 c2 y y' e1 e' r _ (FldAt.below (FldAt.env_of (FldAt.below HH.out.1 (below_a _ _)) (EnvAt.below HH.out.2 (below_a _ _)) H1.out.2.1) (two_below _ _ _)) (EnvAt.below H1.out.1 (two_below _ _ _)) (WordAt.below (WordAt.mod (WordAt.below (WordAt.lt HW.out.1) (below_a _ _)) H1.out.2.1 (fun k hk => HW.out.2.2 k hk.1)) (two_below _ _ _)) HW.out.2.1 (fun k hk he => HW.out.2.2 k hk.1 (H1.out.2.2.1 k (Nat.lt_of_lt_of_le hk.2 (by simp)) he)) (Kd.C_below H1.out.2.2.2 (two_below _ _ _)) HB.out.1 HB.out.2 HM.out.2).mono ?_; rintro en w2 ⟨rfl, h1⟩; have H2 := Lib.hid h1; clear h1))
  go_ret
  exact ⟨rfl, .before (below_a _ _) (.after_env H1.out.2.1 H1.out.2.2.1 (.before (two_below _ _ _) H2.out))⟩

set_option maxHeartbeats 3200000 in
set_option maxRecDepth 100000 in
theorem param_3 {M : ParamT → FT → EnvT → Option Res} {deep : Int} {d : Nat} (hM : MOk 28 M deep d) (S E P : Nat → Prop) (f g : Nat) (k : Int) (t : B) (q : Bool) (pw : List PartT) (pb : Option (B × Bool)) (A : Option Addr) (n c : Nat) (ba : Option Addr) (y y' : FT) (e e1 e' : EnvT) (x : ParamT) (r : Int) (w : World) (H : FldAt S w f g deep y) (HE : EnvAt E w g e)
    (hw : WordAt d P w A n pw) (hc : n ≤ c) (hP : ∀ k, P k → ¬ E k) (hx : askP e (.mk k t ⟨#[45]⟩ q pw pb) = some (x, e1)) (hv : x.value.size ≤ bigT) (hl : x.args.length < big) (h : M x y e1 = some (r, y', e')) :
    Calls Tryd.prog 21 #[.pointer (some ⟨f, 0, none⟩), partV (.mk k t ⟨#[45]⟩ q pw pb) (.slice A n c) (.pointer ba)] w fun en w' => en = .returned (.int .i64 r) ∧ MPost S E w f g deep y' e' w' := by
  have hxp : x.p = .mk k t ⟨#[45]⟩ q pw pb := by
    obtain ⟨v, st, l, -, hx⟩ := askP_some hx
    rw [hx]
  obtain ⟨xp, xv, xs, xa, xm⟩ := x
  dsimp only at hxp hv hl
  subst hxp
  have HH := Lib.hid (And.intro H HE)
  have HAS := Lib.hid hx
  have HM := Lib.hid (And.intro hM h)
  have HW := Lib.hid (And.intro hw (And.intro hc hP))
  have HB := Lib.hid (And.intro hv hl)
  have hmm := @run_makeMap Tryd.prog
  clear h H HE hx hM hw hc hP hv hl
  unfold partV
  simp only [PartT.kind, PartT.text, PartT.op, PartT.quoted]
  go_enter Tryd.func21, Tryd.ntmps21
  go_wp2_with (first
    | (go_at_call 25; refine (ask_walk S E f g deep y e e1 (.mk k t ⟨#[45]⟩ q pw pb) A n c ba _ _ (FldAt.below HH.out.1 (below_a _ _)) (EnvAt.below HH.out.2 (below_a _ _)) HAS.out).mono ?_; rintro en w1 ⟨av, E', rfl, ⟨A2, n2, c2, rfl, rfl, h5, h6, h7⟩, h2, h3, h4⟩; have HO := Lib.hid (keep_obj HH.out.2 h3 (Nat.le_refl _) (heap_alloc_new w _)); obtain ⟨q1, q2, q3⟩ := box_cells HO.out; have H1 := Lib.hid (And.intro h2 (And.intro h3 (And.intro h4 h6))); clear h2 h3 h4 h5 h6 h7; unfold paramV; simp only [PartT.kind, PartT.text, PartT.op, PartT.quoted])
    | (go_at_call 28; refine (HM.out.1 S E' (fun k => P k ∧ k < w.heap.size) f g ⟨.mk k t ⟨#[45]⟩ q pw pb, xv, xs, xa, xm⟩ A n c ba A2 c2 y y' e1 e' r _ (FldAt.below (FldAt.env_of (FldAt.below HH.out.1 (below_a _ _)) (EnvAt.below HH.out.2 (below_a _ _)) H1.out.2.1) (two_below _ _ _)) (EnvAt.below H1.out.1 (two_below _ _ _)) (WordAt.below (WordAt.mod (WordAt.below (WordAt.lt HW.out.1) (below_a _ _)) H1.out.2.1 (fun k hk => HW.out.2.2 k hk.1)) (two_below _ _ _)) HW.out.2.1 (fun k hk he => HW.out.2.2 k hk.1 (H1.out.2.2.1 k (Nat.lt_of_lt_of_le hk.2 (by simp)) he)) (Kd.C_below H1.out.2.2.2 (two_below _ _ _)) HB.out.1 HB.out.2 HM.out.2).mono ?_; rintro en w2 ⟨rfl, h1⟩; have H2 := Lib.hid h1; clear h1))
  go_ret
  exact ⟨rfl, .before (below_a _ _) (.after_env H1.out.2.1 H1.out.2.2.1 (.before (two_below _ _ _) H2.out))⟩

set_option maxHeartbeats 3200000 in
set_option maxRecDepth 100000 in
theorem param_4 {M : ParamT → FT → EnvT → Option Res} {deep : Int} {d : Nat} (hM : MOk 29 M deep d) (S E P : Nat → Prop) (f g : Nat) (k : Int) (t : B) (q : Bool) (pw : List PartT) (pb : Option (B × Bool)) (A : Option Addr) (n c : Nat) (ba : Option Addr) (y y' : FT) (e e1 e' : EnvT) (x : ParamT) (r : Int) (w : World) (H : FldAt S w f g deep y) (HE : EnvAt E w g e)
    (hw : WordAt d P w A n pw) (hc : n ≤ c) (hP : ∀ k, P k → ¬ E k) (hx : askP e (.mk k t ⟨#[58, 43]⟩ q pw pb) = some (x, e1)) (hv : x.value.size ≤ bigT) (hl : x.args.length < big) (h : M x y e1 = some (r, y', e')) :
    Calls Tryd.prog 21 #[.pointer (some ⟨f, 0, none⟩), partV (.mk k t ⟨#[58, 43]⟩ q pw pb) (.slice A n c) (.pointer ba)] w fun en w' => en = .returned (.int .i64 r) ∧ MPost S E w f g deep y' e' w' := by
  have hxp : x.p = .mk k t ⟨#[58, 43]⟩ q pw pb := by
    obtain ⟨v, st, l, -, hx⟩ := askP_some hx
    rw [hx]
  obtain ⟨xp, xv, xs, xa, xm⟩ := x
  dsimp only at hxp hv hl
  subst hxp
  have HH := Lib.hid (And.intro H HE)
  have HAS := Lib.hid hx
  have HM := Lib.hid (And.intro hM h)
  have HW := Lib.hid (And.intro hw (And.intro hc hP))
  have HB := Lib.hid (And.intro hv hl)
  have hmm := @run_makeMap Tryd.prog
  clear h H HE hx hM hw hc hP hv hl
  unfold partV
  simp only [PartT.kind, PartT.text, PartT.op, PartT.quoted]
  go_enter Tryd.func21, Tryd.ntmps21
  go_wp2_with (first
    | (go_at_call 25; refine (ask_walk S E f g deep y e e1 (.mk k t ⟨#[58, 43]⟩ q pw pb) A n c ba _ _ (FldAt.below HH.out.1 (below_a _ _)) (EnvAt.below HH.out.2 (below_a _ _)) HAS.out).mono ?_; rintro en w1 ⟨av, E', rfl, ⟨A2, n2, c2, rfl, rfl, h5, h6, h7⟩, h2, h3, h4⟩; have HO := Lib.hid (keep_obj HH.out.2 h3 (Nat.le_refl _) (heap_alloc_new w _)); obtain ⟨q1, q2, q3⟩ := box_cells HO.out; have H1 := Lib.hid (And.intro h2 (And.intro h3 (And.intro h4 h6))); clear h2 h3 h4 h5 h6 h7; unfold paramV; simp only [PartT.kind, PartT.text, PartT.op, PartT.quoted])
    | (go_at_call 29; refine (HM.out.1 S E' (fun k => P k ∧ k < w.heap.size) f g ⟨.mk k t ⟨#[58, 43]⟩ q pw pb, xv, xs, xa, xm⟩ A n c ba A2 c2 y y' e1 e' r _ (FldAt.below (FldAt.env_of (FldAt.below HH.out.1 (below_a _ _)) (EnvAt.below HH.out.2 (below_a _ _)) H1.out.2.1) (two_below _ _ _)) (EnvAt.below H1.out.1 (two_below _ _ _)) (WordAt.below (WordAt.mod (WordAt.below (WordAt.lt HW.out.1) (below_a _ _)) H1.out.2.1 (fun k hk => HW.out.2.2 k hk.1)) (two_below _ _ _)) HW.out.2.1 (fun k hk he => HW.out.2.2 k hk.1 (H1.out.2.2.1 k (Nat.lt_of_lt_of_le hk.2 (by simp)) he)) (Kd.C_below H1.out.2.2.2 (two_below _ _ _)) HB.out.1 HB.out.2 HM.out.2).mono ?_; rintro en w2 ⟨rfl, h1⟩; have H2 := Lib.hid h1; clear h1))
  go_ret
  exact ⟨rfl, .before (below_a _ _) (.after_env H1.out.2.1 H1.out.2.2.1 (.before (two_below _ _ _) H2.out))⟩

set_option maxHeartbeats 3200000 in
set_option maxRecDepth 100000 in
theorem param_5 {M : ParamT → FT → EnvT → Option Res} {deep : Int} {d : Nat} (hM : MOk 29 M deep d) (S E P : Nat → Prop) (f g : Nat) (k : Int) (t : B) (q : Bool) (pw : List PartT) (pb : Option (B × Bool)) (A : Option Addr) (n c : Nat) (ba : Option Addr) (y y' : FT) (e e1 e' : EnvT) (x : ParamT) (r : Int) (w : World) (H : FldAt S w f g deep y) (HE : EnvAt E w g e)
    (hw : WordAt d P w A n pw) (hc : n ≤ c) (hP : ∀ k, P k → ¬ E k) (hx : askP e (.mk k t ⟨#[43]⟩ q pw pb) = some (x, e1)) (hv : x.value.size ≤ bigT) (hl : x.args.length < big) (h : M x y e1 = some (r, y', e')) :
    Calls Tryd.prog 21 #[.pointer (some ⟨f, 0, none⟩), partV (.mk k t ⟨#[43]⟩ q pw pb) (.slice A n c) (.pointer ba)] w fun en w' => en = .returned (.int .i64 r) ∧ MPost S E w f g deep y' e' w' := by
  have hxp : x.p = .mk k t ⟨#[43]⟩ q pw pb := by
    obtain ⟨v, st, l, -, hx⟩ := askP_some hx
    rw [hx]
  obtain ⟨xp, xv, xs, xa, xm⟩ := x
  dsimp only at hxp hv hl
  subst hxp
  have HH := Lib.hid (And.intro H HE)
  have HAS := Lib.hid hx
  have HM := Lib.hid (And.intro hM h)
  have HW := Lib.hid (And.intro hw (And.intro hc hP))
  have HB := Lib.hid (And.intro hv hl)
  have hmm := @run_makeMap Tryd.prog
  clear h H HE hx hM hw hc hP hv hl
  unfold partV
  simp only [PartT.kind, PartT.text, PartT.op, PartT.quoted]
  go_enter Tryd.func21, Tryd.ntmps21
  go_wp2_with (first
    | (go_at_call 25; refine (ask_walk S E f g deep y e e1 (.mk k t ⟨#[43]⟩ q pw pb) A n c ba _ _ (FldAt.below HH.out.1 (below_a _ _)) (EnvAt.below HH.out.2 (below_a _ _)) HAS.out).mono ?_; rintro en w1 ⟨av, E', rfl, ⟨A2, n2, c2, rfl, rfl, h5, h6, h7⟩, h2, h3, h4⟩; have HO := Lib.hid (keep_obj HH.out.2 h3 (Nat.le_refl _) (heap_alloc_new w _)); obtain ⟨q1, q2, q3⟩ := box_cells HO.out; have H1 := Lib.hid (And.intro h2 (And.intro h3 (And.intro h4 h6))); clear h2 h3 h4 h5 h6 h7; unfold paramV; simp only [PartT.kind, PartT.text, PartT.op, PartT.quoted])
    | (go_at_call 29; refine (HM.out.1 S E' (fun k => P k ∧ k < w.heap.size) f g ⟨.mk k t ⟨#[43]⟩ q pw pb, xv, xs, xa, xm⟩ A n c ba A2 c2 y y' e1 e' r _ (FldAt.below (FldAt.env_of (FldAt.below HH.out.1 (below_a _ _)) (EnvAt.below HH.out.2 (below_a _ _)) H1.out.2.1) (two_below _ _ _)) (EnvAt.below H1.out.1 (two_below _ _ _)) (WordAt.below (WordAt.mod (WordAt.below (WordAt.lt HW.out.1) (below_a _ _)) H1.out.2.1 (fun k hk => HW.out.2.2 k hk.1)) (two_below _ _ _)) HW.out.2.1 (fun k hk he => HW.out.2.2 k hk.1 (H1.out.2.2.1 k (Nat.lt_of_lt_of_le hk.2 (by simp)) he)) (Kd.C_below H1.out.2.2.2 (two_below _ _ _)) HB.out.1 HB.out.2 HM.out.2).mono ?_; rintro en w2 ⟨rfl, h1⟩; have H2 := Lib.hid h1; clear h1))
  go_ret
  exact ⟨rfl, .before (below_a _ _) (.after_env H1.out.2.1 H1.out.2.2.1 (.before (two_below _ _ _) H2.out))⟩

set_option maxHeartbeats 3200000 in
set_option maxRecDepth 100000 in
theorem param_6 {M : ParamT → FT → EnvT → Option Res} {deep : Int} {d : Nat} (hM : MOk 30 M deep d) (S E P : Nat → Prop) (f g : Nat) (k : Int) (t : B) (q : Bool) (pw : List PartT) (pb : Option (B × Bool)) (A : Option Addr) (n c : Nat) (ba : Option Addr) (y y' : FT) (e e1 e' : EnvT) (x : ParamT) (r : Int) (w : World) (H : FldAt S w f g deep y) (HE : EnvAt E w g e)
    (hw : WordAt d P w A n pw) (hc : n ≤ c) (hP : ∀ k, P k → ¬ E k) (hx : askP e (.mk k t ⟨#[58, 61]⟩ q pw pb) = some (x, e1)) (hv : x.value.size ≤ bigT) (hl : x.args.length < big) (h : M x y e1 = some (r, y', e')) :
    Calls Tryd.prog 21 #[.pointer (some ⟨f, 0, none⟩), partV (.mk k t ⟨#[58, 61]⟩ q pw pb) (.slice A n c) (.pointer ba)] w fun en w' => en = .returned (.int .i64 r) ∧ MPost S E w f g deep y' e' w' := by
  have hxp : x.p = .mk k t ⟨#[58, 61]⟩ q pw pb := by
    obtain ⟨v, st, l, -, hx⟩ := askP_some hx
    rw [hx]
  obtain ⟨xp, xv, xs, xa, xm⟩ := x
  dsimp only at hxp hv hl
  subst hxp
  have HH := Lib.hid (And.intro H HE)
  have HAS := Lib.hid hx
  have HM := Lib.hid (And.intro hM h)
  have HW := Lib.hid (And.intro hw (And.intro hc hP))
  have HB := Lib.hid (And.intro hv hl)
  have hmm := @run_makeMap Tryd.prog
  clear h H HE hx hM hw hc hP hv hl
  unfold partV
  simp only [PartT.kind, PartT.text, PartT.op, PartT.quoted]
  go_enter Tryd.func21, Tryd.ntmps21
  go_wp2_with (first
    | (go_at_call 25; refine (ask_walk S E f g deep y e e1 (.mk k t ⟨#[58, 61]⟩ q pw pb) A n c ba _ _ (FldAt.below HH.out.1 (below_a _ _)) (EnvAt.below HH.out.2 (below_a _ _)) HAS.out).mono ?_; rintro en w1 ⟨av, E', rfl, ⟨A2, n2, c2, rfl, rfl, h5, h6, h7⟩, h2, h3, h4⟩; have HO := Lib.hid (keep_obj HH.out.2 h3 (Nat.le_refl _) (heap_alloc_new w _)); obtain ⟨q1, q2, q3⟩ := box_cells HO.out; have H1 := Lib.hid (And.intro h2 (And.intro h3 (And.intro h4 h6))); clear h2 h3 h4 h5 h6 h7; unfold paramV; simp only [PartT.kind, PartT.text, PartT.op, PartT.quoted])
    | (go_at_call 30; refine (HM.out.1 S E' (fun k => P k ∧ k < w.heap.size) f g ⟨.mk k t ⟨#[58, 61]⟩ q pw pb, xv, xs, xa, xm⟩ A n c ba A2 c2 y y' e1 e' r _ (FldAt.below (FldAt.env_of (FldAt.below HH.out.1 (below_a _ _)) (EnvAt.below HH.out.2 (below_a _ _)) H1.out.2.1) (two_below _ _ _)) (EnvAt.below H1.out.1 (two_below _ _ _)) (WordAt.below (WordAt.mod (WordAt.below (WordAt.lt HW.out.1) (below_a _ _)) H1.out.2.1 (fun k hk => HW.out.2.2 k hk.1)) (two_below _ _ _)) HW.out.2.1 (fun k hk he => HW.out.2.2 k hk.1 (H1.out.2.2.1 k (Nat.lt_of_lt_of_le hk.2 (by simp)) he)) (Kd.C_below H1.out.2.2.2 (two_below _ _ _)) HB.out.1 HB.out.2 HM.out.2).mono ?_; rintro en w2 ⟨rfl, h1⟩; have H2 := Lib.hid h1; clear h1))
  go_ret
  exact ⟨rfl, .before (below_a _ _) (.after_env H1.out.2.1 H1.out.2.2.1 (.before (two_below _ _ _) H2.out))⟩

set_option maxHeartbeats 3200000 in
set_option maxRecDepth 100000 in
theorem param_7 {M : ParamT → FT → EnvT → Option Res} {deep : Int} {d : Nat} (hM : MOk 30 M deep d) (S E P : Nat → Prop) (f g : Nat) (k : Int) (t : B) (q : Bool) (pw : List PartT) (pb : Option (B × Bool)) (A : Option Addr) (n c : Nat) (ba : Option Addr) (y y' : FT) (e e1 e' : EnvT) (x : ParamT) (r : Int) (w : World) (H : FldAt S w f g deep y) (HE : EnvAt E w g e)
    (hw : WordAt d P w A n pw) (hc : n ≤ c) (hP : ∀ k, P k → ¬ E k) (hx : askP e (.mk k t ⟨#[61]⟩ q pw pb) = some (x, e1)) (hv : x.value.size ≤ bigT) (hl : x.args.length < big) (h : M x y e1 = some (r, y', e')) :
    Calls Tryd.prog 21 #[.pointer (some ⟨f, 0, none⟩), partV (.mk k t ⟨#[61]⟩ q pw pb) (.slice A n c) (.pointer ba)] w fun en w' => en = .returned (.int .i64 r) ∧ MPost S E w f g deep y' e' w' := by
  have hxp : x.p = .mk k t ⟨#[61]⟩ q pw pb := by
    obtain ⟨v, st, l, -, hx⟩ := askP_some hx
    rw [hx]
  obtain ⟨xp, xv, xs, xa, xm⟩ := x
  dsimp only at hxp hv hl
  subst hxp
  have HH := Lib.hid (And.intro H HE)
  have HAS := Lib.hid hx
  have HM := Lib.hid (And.intro hM h)
  have HW := Lib.hid (And.intro hw (And.intro hc hP))
  have HB := Lib.hid (And.intro hv hl)
  have hmm := @run_makeMap Tryd.prog
  clear h H HE hx hM hw hc hP hv hl
  unfold partV
  simp only [PartT.kind, PartT.text, PartT.op, PartT.quoted]
  go_enter Tryd.func21, Tryd.ntmps21
  go_wp2_with (first
    | (go_at_call 25; refine (ask_walk S E f g deep y e e1 (.mk k t ⟨#[61]⟩ q pw pb) A n c ba _ _ (FldAt.below HH.out.1 (below_a _ _)) (EnvAt.below HH.out.2 (below_a _ _)) HAS.out).mono ?_; rintro en w1 ⟨av, E', rfl, ⟨A2, n2, c2, rfl, rfl, h5, h6, h7⟩, h2, h3, h4⟩; have HO := Lib.hid (keep_obj HH.out.2 h3 (Nat.le_refl _) (heap_alloc_new w _)); obtain ⟨q1, q2, q3⟩ := box_cells HO.out; have H1 := Lib.hid (And.intro h2 (And.intro h3 (And.intro h4 h6))); clear h2 h3 h4 h5 h6 h7; unfold paramV; simp only [PartT.kind, PartT.text, PartT.op, PartT.quoted])
    | (go_at_call 30; refine (HM.out.1 S E' (fun k => P k ∧ k < w.heap.size) f g ⟨.mk k t ⟨#[61]⟩ q pw pb, xv, xs, xa, xm⟩ A n c ba A2 c2 y y' e1 e' r _ (FldAt.below (FldAt.env_of (FldAt.below HH.out.1 (below_a _ _)) (EnvAt.below HH.out.2 (below_a _ _)) H1.out.2.1) (two_below _ _ _)) (EnvAt.below H1.out.1 (two_below _ _ _)) (WordAt.below (WordAt.mod (WordAt.below (WordAt.lt HW.out.1) (below_a _ _)) H1.out.2.1 (fun k hk => HW.out.2.2 k hk.1)) (two_below _ _ _)) HW.out.2.1 (fun k hk he => HW.out.2.2 k hk.1 (H1.out.2.2.1 k (Nat.lt_of_lt_of_le hk.2 (by simp)) he)) (Kd.C_below H1.out.2.2.2 (two_below _ _ _)) HB.out.1 HB.out.2 HM.out.2).mono ?_; rintro en w2 ⟨rfl, h1⟩; have H2 := Lib.hid h1; clear h1))
  go_ret
  exact ⟨rfl, .before (below_a _ _) (.after_env H1.out.2.1 H1.out.2.2.1 (.before (two_below _ _ _) H2.out))⟩

set_option maxHeartbeats 3200000 in
set_option maxRecDepth 100000 in
theorem param_8 {M : ParamT → FT → EnvT → Option Res} {deep : Int} {d : Nat} (hM : MOk 31 M deep d) (S E P : Nat → Prop) (f g : Nat) (k : Int) (t : B) (q : Bool) (pw : List PartT) (pb : Option (B × Bool)) (A : Option Addr) (n c : Nat) (ba : Option Addr) (y y' : FT) (e e1 e' : EnvT) (x : ParamT) (r : Int) (w : World) (H : FldAt S w f g deep y) (HE : EnvAt E w g e)
    (hw : WordAt d P w A n pw) (hc : n ≤ c) (hP : ∀ k, P k → ¬ E k) (hx : askP e (.mk k t ⟨#[58, 63]⟩ q pw pb) = some (x, e1)) (hv : x.value.size ≤ bigT) (hl : x.args.length < big) (h : M x y e1 = some (r, y', e')) :
    Calls Tryd.prog 21 #[.pointer (some ⟨f, 0, none⟩), partV (.mk k t ⟨#[58, 63]⟩ q pw pb) (.slice A n c) (.pointer ba)] w fun en w' => en = .returned (.int .i64 r) ∧ MPost S E w f g deep y' e' w' := by
  have hxp : x.p = .mk k t ⟨#[58, 63]⟩ q pw pb := by
    obtain ⟨v, st, l, -, hx⟩ := askP_some hx
    rw [hx]
  obtain ⟨xp, xv, xs, xa, xm⟩ := x
  dsimp only at hxp hv hl
  subst hxp
  have HH := Lib.hid (And.intro H HE)
  have HAS := Lib.hid hx
  have HM := Lib.hid (And.intro hM h)
  have HW := Lib.hid (And.intro hw (And.intro hc hP))
  have HB := Lib.hid (And.intro hv hl)
  have hmm := @run_makeMap Tryd.prog
  clear h H HE hx hM hw hc hP hv hl
  unfold partV
  simp only [PartT.kind, PartT.text, PartT.op, PartT.quoted]
  go_enter Tryd.func21, Tryd.ntmps21
  go_wp2_with (first
    | (go_at_call 25; refine (ask_walk S E f g deep y e e1 (.mk k t ⟨#[58, 63]⟩ q pw pb) A n c ba _ _ (FldAt.below HH.out.1 (below_a _ _)) (EnvAt.below HH.out.2 (below_a _ _)) HAS.out).mono ?_; rintro en w1 ⟨av, E', rfl, ⟨A2, n2, c2, rfl, rfl, h5, h6, h7⟩, h2, h3, h4⟩; have HO := Lib.hid (keep_obj HH.out.2 h3 (Nat.le_refl _) (heap_alloc_new w _)); obtain ⟨q1, q2, q3⟩ := box_cells HO.out; have H1 := Lib.hid (And.intro h2 (And.intro h3 (And.intro h4 h6))); clear h2 h3 h4 h5 h6 h7; unfold paramV; simp only [PartT.kind, PartT.text, PartT.op, PartT.quoted])
    | (go_at_call 31; refine (HM.out.1 S E' (fun k => P k ∧ k < w.heap.size) f g ⟨.mk k t ⟨#[58, 63]⟩ q pw pb, xv, xs, xa, xm⟩ A n c ba A2 c2 y y' e1 e' r _ (FldAt.below (FldAt.env_of (FldAt.below HH.out.1 (below_a _ _)) (EnvAt.below HH.out.2 (below_a _ _)) H1.out.2.1) (two_below _ _ _)) (EnvAt.below H1.out.1 (two_below _ _ _)) (WordAt.below (WordAt.mod (WordAt.below (WordAt.lt HW.out.1) (below_a _ _)) H1.out.2.1 (fun k hk => HW.out.2.2 k hk.1)) (two_below _ _ _)) HW.out.2.1 (fun k hk he => HW.out.2.2 k hk.1 (H1.out.2.2.1 k (Nat.lt_of_lt_of_le hk.2 (by simp)) he)) (Kd.C_below H1.out.2.2.2 (two_below _ _ _)) HB.out.1 HB.out.2 HM.out.2).mono ?_; rintro en w2 ⟨rfl, h1⟩; have H2 := Lib.hid h1; clear h1))
  go_ret
  exact ⟨rfl, .before (below_a _ _) (.after_env H1.out.2.1 H1.out.2.2.1 (.before (two_below _ _ _) H2.out))⟩

set_option maxHeartbeats 3200000 in
set_option maxRecDepth 100000 in
theorem param_9 {M : ParamT → FT → EnvT → Option Res} {deep : Int} {d : Nat} (hM : MOk 31 M deep d) (S E P : Nat → Prop) (f g : Nat) (k : Int) (t : B) (q : Bool) (pw : List PartT) (pb : Option (B × Bool)) (A : Option Addr) (n c : Nat) (ba : Option Addr) (y y' : FT) (e e1 e' : EnvT) (x : ParamT) (r : Int) (w : World) (H : FldAt S w f g deep y) (HE : EnvAt E w g e)
    (hw : WordAt d P w A n pw) (hc : n ≤ c) (hP : ∀ k, P k → ¬ E k) (hx : askP e (.mk k t ⟨#[63]⟩ q pw pb) = some (x, e1)) (hv : x.value.size ≤ bigT) (hl : x.args.length < big) (h : M x y e1 = some (r, y', e')) :
    Calls Tryd.prog 21 #[.pointer (some ⟨f, 0, none⟩), partV (.mk k t ⟨#[63]⟩ q pw pb) (.slice A n c) (.pointer ba)] w fun en w' => en = .returned (.int .i64 r) ∧ MPost S E w f g deep y' e' w' := by
  have hxp : x.p = .mk k t ⟨#[63]⟩ q pw pb := by
    obtain ⟨v, st, l, -, hx⟩ := askP_some hx
    rw [hx]
  obtain ⟨xp, xv, xs, xa, xm⟩ := x
  dsimp only at hxp hv hl
  subst hxp
  have HH := Lib.hid (And.intro H HE)
  have HAS := Lib.hid hx
  have HM := Lib.hid (And.intro hM h)
  have HW := Lib.hid (And.intro hw (And.intro hc hP))
  have HB := Lib.hid (And.intro hv hl)
  have hmm := @run_makeMap Tryd.prog
  clear h H HE hx hM hw hc hP hv hl
  unfold partV
  simp only [PartT.kind, PartT.text, PartT.op, PartT.quoted]
  go_enter Tryd.func21, Tryd.ntmps21
  go_wp2_with (first
    | (go_at_call 25; refine (ask_walk S E f g deep y e e1 (.mk k t ⟨#[63]⟩ q pw pb) A n c ba _ _ (FldAt.below HH.out.1 (below_a _ _)) (EnvAt.below HH.out.2 (below_a _ _)) HAS.out).mono ?_; rintro en w1 ⟨av, E', rfl, ⟨A2, n2, c2, rfl, rfl, h5, h6, h7⟩, h2, h3, h4⟩; have HO := Lib.hid (keep_obj HH.out.2 h3 (Nat.le_refl _) (heap_alloc_new w _)); obtain ⟨q1, q2, q3⟩ := box_cells HO.out; have H1 := Lib.hid (And.intro h2 (And.intro h3 (And.intro h4 h6))); clear h2 h3 h4 h5 h6 h7; unfold paramV; simp only [PartT.kind, PartT.text, PartT.op, PartT.quoted])
    | (go_at_call 31; refine (HM.out.1 S E' (fun k => P k ∧ k < w.heap.size) f g ⟨.mk k t ⟨#[63]⟩ q pw pb, xv, xs, xa, xm⟩ A n c ba A2 c2 y y' e1 e' r _ (FldAt.below (FldAt.env_of (FldAt.below HH.out.1 (below_a _ _)) (EnvAt.below HH.out.2 (below_a _ _)) H1.out.2.1) (two_below _ _ _)) (EnvAt.below H1.out.1 (two_below _ _ _)) (WordAt.below (WordAt.mod (WordAt.below (WordAt.lt HW.out.1) (below_a _ _)) H1.out.2.1 (fun k hk => HW.out.2.2 k hk.1)) (two_below _ _ _)) HW.out.2.1 (fun k hk he => HW.out.2.2 k hk.1 (H1.out.2.2.1 k (Nat.lt_of_lt_of_le hk.2 (by simp)) he)) (Kd.C_below H1.out.2.2.2 (two_below _ _ _)) HB.out.1 HB.out.2 HM.out.2).mono ?_; rintro en w2 ⟨rfl, h1⟩; have H2 := Lib.hid h1; clear h1))
  go_ret
  exact ⟨rfl, .before (below_a _ _) (.after_env H1.out.2.1 H1.out.2.2.1 (.before (two_below _ _ _) H2.out))⟩

set_option maxHeartbeats 3200000 in
set_option maxRecDepth 100000 in
theorem param_10 {M : ParamT → FT → EnvT → Option Res} {deep : Int} {d : Nat} (hM : MOk 32 M deep d) (S E P : Nat → Prop) (f g : Nat) (k : Int) (t : B) (q : Bool) (pw : List PartT) (pb : Option (B × Bool)) (A : Option Addr) (n c : Nat) (ba : Option Addr) (y y' : FT) (e e1 e' : EnvT) (x : ParamT) (r : Int) (w : World) (H : FldAt S w f g deep y) (HE : EnvAt E w g e)
    (hw : WordAt d P w A n pw) (hc : n ≤ c) (hP : ∀ k, P k → ¬ E k) (hx : askP e (.mk k t ⟨#[35]⟩ q pw pb) = some (x, e1)) (hv : x.value.size ≤ bigT) (hl : x.args.length < big) (h : M x y e1 = some (r, y', e')) :
    Calls Tryd.prog 21 #[.pointer (some ⟨f, 0, none⟩), partV (.mk k t ⟨#[35]⟩ q pw pb) (.slice A n c) (.pointer ba)] w fun en w' => en = .returned (.int .i64 r) ∧ MPost S E w f g deep y' e' w' := by
  have hxp : x.p = .mk k t ⟨#[35]⟩ q pw pb := by
    obtain ⟨v, st, l, -, hx⟩ := askP_some hx
    rw [hx]
  obtain ⟨xp, xv, xs, xa, xm⟩ := x
  dsimp only at hxp hv hl
  subst hxp
  have HH := Lib.hid (And.intro H HE)
  have HAS := Lib.hid hx
  have HM := Lib.hid (And.intro hM h)
  have HW := Lib.hid (And.intro hw (And.intro hc hP))
  have HB := Lib.hid (And.intro hv hl)
  have hmm := @run_makeMap Tryd.prog
  clear h H HE hx hM hw hc hP hv hl
  unfold partV
  simp only [PartT.kind, PartT.text, PartT.op, PartT.quoted]
  go_enter Tryd.func21, Tryd.ntmps21
  go_wp2_with (first
    | (go_at_call 25; refine (ask_walk S E f g deep y e e1 (.mk k t ⟨#[35]⟩ q pw pb) A n c ba _ _ (FldAt.below HH.out.1 (below_a _ _)) (EnvAt.below HH.out.2 (below_a _ _)) HAS.out).mono ?_; rintro en w1 ⟨av, E', rfl, ⟨A2, n2, c2, rfl, rfl, h5, h6, h7⟩, h2, h3, h4⟩; have HO := Lib.hid (keep_obj HH.out.2 h3 (Nat.le_refl _) (heap_alloc_new w _)); obtain ⟨q1, q2, q3⟩ := box_cells HO.out; have H1 := Lib.hid (And.intro h2 (And.intro h3 (And.intro h4 h6))); clear h2 h3 h4 h5 h6 h7; unfold paramV; simp only [PartT.kind, PartT.text, PartT.op, PartT.quoted])
    | (go_at_call 32; refine (HM.out.1 S E' (fun k => P k ∧ k < w.heap.size) f g ⟨.mk k t ⟨#[35]⟩ q pw pb, xv, xs, xa, xm⟩ A n c ba A2 c2 y y' e1 e' r _ (FldAt.below (FldAt.env_of (FldAt.below HH.out.1 (below_a _ _)) (EnvAt.below HH.out.2 (below_a _ _)) H1.out.2.1) (two_below _ _ _)) (EnvAt.below H1.out.1 (two_below _ _ _)) (WordAt.below (WordAt.mod (WordAt.below (WordAt.lt HW.out.1) (below_a _ _)) H1.out.2.1 (fun k hk => HW.out.2.2 k hk.1)) (two_below _ _ _)) HW.out.2.1 (fun k hk he => HW.out.2.2 k hk.1 (H1.out.2.2.1 k (Nat.lt_of_lt_of_le hk.2 (by simp)) he)) (Kd.C_below H1.out.2.2.2 (two_below _ _ _)) HB.out.1 HB.out.2 HM.out.2).mono ?_; rintro en w2 ⟨rfl, h1⟩; have H2 := Lib.hid h1; clear h1))
  go_ret
  exact ⟨rfl, .before (below_a _ _) (.after_env H1.out.2.1 H1.out.2.2.1 (.before (two_below _ _ _) H2.out))⟩

set_option maxHeartbeats 3200000 in
set_option maxRecDepth 100000 in
theorem param_11 {M : ParamT → FT → EnvT → Option Res} {deep : Int} {d : Nat} (hM : MOk 32 M deep d) (S E P : Nat → Prop) (f g : Nat) (k : Int) (t : B) (q : Bool) (pw : List PartT) (pb : Option (B × Bool)) (A : Option Addr) (n c : Nat) (ba : Option Addr) (y y' : FT) (e e1 e' : EnvT) (x : ParamT) (r : Int) (w : World) (H : FldAt S w f g deep y) (HE : EnvAt E w g e)
    (hw : WordAt d P w A n pw) (hc : n ≤ c) (hP : ∀ k, P k → ¬ E k) (hx : askP e (.mk k t ⟨#[35, 35]⟩ q pw pb) = some (x, e1)) (hv : x.value.size ≤ bigT) (hl : x.args.length < big) (h : M x y e1 = some (r, y', e')) :
    Calls Tryd.prog 21 #[.pointer (some ⟨f, 0, none⟩), partV (.mk k t ⟨#[35, 35]⟩ q pw pb) (.slice A n c) (.pointer ba)] w fun en w' => en = .returned (.int .i64 r) ∧ MPost S E w f g deep y' e' w' := by
  have hxp : x.p = .mk k t ⟨#[35, 35]⟩ q pw pb := by
    obtain ⟨v, st, l, -, hx⟩ := askP_some hx
    rw [hx]
  obtain ⟨xp, xv, xs, xa, xm⟩ := x
  dsimp only at hxp hv hl
  subst hxp
  have HH := Lib.hid (And.intro H HE)
  have HAS := Lib.hid hx
  have HM := Lib.hid (And.intro hM h)
  have HW := Lib.hid (And.intro hw (And.intro hc hP))
  have HB := Lib.hid (And.intro hv hl)
  have hmm := @run_makeMap Tryd.prog
  clear h H HE hx hM hw hc hP hv hl
  unfold partV
  simp only [PartT.kind, PartT.text, PartT.op, PartT.quoted]
  go_enter Tryd.func21, Tryd.ntmps21
  go_wp2_with (first
    | (go_at_call 25; refine (ask_walk S E f g deep y e e1 (.mk k t ⟨#[35, 35]⟩ q pw pb) A n c ba _ _ (FldAt.below HH.out.1 (below_a _ _)) (EnvAt.below HH.out.2 (below_a _ _)) HAS.out).mono ?_; rintro en w1 ⟨av, E', rfl, ⟨A2, n2, c2, rfl, rfl, h5, h6, h7⟩, h2, h3, h4⟩; have HO := Lib.hid (keep_obj HH.out.2 h3 (Nat.le_refl _) (heap_alloc_new w _)); obtain ⟨q1, q2, q3⟩ := box_cells HO.out; have H1 := Lib.hid (And.intro h2 (And.intro h3 (And.intro h4 h6))); clear h2 h3 h4 h5 h6 h7; unfold paramV; simp only [PartT.kind, PartT.text, PartT.op, PartT.quoted])
    | (go_at_call 32; refine (HM.out.1 S E' (fun k => P k ∧ k < w.heap.size) f g ⟨.mk k t ⟨#[35, 35]⟩ q pw pb, xv, xs, xa, xm⟩ A n c ba A2 c2 y y' e1 e' r _ (FldAt.below (FldAt.env_of (FldAt.below HH.out.1 (below_a _ _)) (EnvAt.below HH.out.2 (below_a _ _)) H1.out.2.1) (two_below _ _ _)) (EnvAt.below H1.out.1 (two_below _ _ _)) (WordAt.below (WordAt.mod (WordAt.below (WordAt.lt HW.out.1) (below_a _ _)) H1.out.2.1 (fun k hk => HW.out.2.2 k hk.1)) (two_below _ _ _)) HW.out.2.1 (fun k hk he => HW.out.2.2 k hk.1 (H1.out.2.2.1 k (Nat.lt_of_lt_of_le hk.2 (by simp)) he)) (Kd.C_below H1.out.2.2.2 (two_below _ _ _)) HB.out.1 HB.out.2 HM.out.2).mono ?_; rintro en w2 ⟨rfl, h1⟩; have H2 := Lib.hid h1; clear h1))
  go_ret
  exact ⟨rfl, .before (below_a _ _) (.after_env H1.out.2.1 H1.out.2.2.1 (.before (two_below _ _ _) H2.out))⟩

set_option maxHeartbeats 3200000 in
set_option maxRecDepth 100000 in
theorem param_12 {M : ParamT → FT → EnvT → Option Res} {deep : Int} {d : Nat} (hM : MOk 32 M deep d) (S E P : Nat → Prop) (f g : Nat) (k : Int) (t : B) (q : Bool) (pw : List PartT) (pb : Option (B × Bool)) (A : Option Addr) (n c : Nat) (ba : Option Addr) (y y' : FT) (e e1 e' : EnvT) (x : ParamT) (r : Int) (w : World) (H : FldAt S w f g deep y) (HE : EnvAt E w g e)
    (hw : WordAt d P w A n pw) (hc : n ≤ c) (hP : ∀ k, P k → ¬ E k) (hx : askP e (.mk k t ⟨#[37]⟩ q pw pb) = some (x, e1)) (hv : x.value.size ≤ bigT) (hl : x.args.length < big) (h : M x y e1 = some (r, y', e')) :
    Calls Tryd.prog 21 #[.pointer (some ⟨f, 0, none⟩), partV (.mk k t ⟨#[37]⟩ q pw pb) (.slice A n c) (.pointer ba)] w fun en w' => en = .returned (.int .i64 r) ∧ MPost S E w f g deep y' e' w' := by
  have hxp : x.p = .mk k t ⟨#[37]⟩ q pw pb := by
    obtain ⟨v, st, l, -, hx⟩ := askP_some hx
    rw [hx]
  obtain ⟨xp, xv, xs, xa, xm⟩ := x
  dsimp only at hxp hv hl
  subst hxp
  have HH := Lib.hid (And.intro H HE)
  have HAS := Lib.hid hx
  have HM := Lib.hid (And.intro hM h)
  have HW := Lib.hid (And.intro hw (And.intro hc hP))
  have HB := Lib.hid (And.intro hv hl)
  have hmm := @run_makeMap Tryd.prog
  clear h H HE hx hM hw hc hP hv hl
  unfold partV
  simp only [PartT.kind, PartT.text, PartT.op, PartT.quoted]
  go_enter Tryd.func21, Tryd.ntmps21
  go_wp2_with (first
    | (go_at_call 25; refine (ask_walk S E f g deep y e e1 (.mk k t ⟨#[37]⟩ q pw pb) A n c ba _ _ (FldAt.below HH.out.1 (below_a _ _)) (EnvAt.below HH.out.2 (below_a _ _)) HAS.out).mono ?_; rintro en w1 ⟨av, E', rfl, ⟨A2, n2, c2, rfl, rfl, h5, h6, h7⟩, h2, h3, h4⟩; have HO := Lib.hid (keep_obj HH.out.2 h3 (Nat.le_refl _) (heap_alloc_new w _)); obtain ⟨q1, q2, q3⟩ := box_cells HO.out; have H1 := Lib.hid (And.intro h2 (And.intro h3 (And.intro h4 h6))); clear h2 h3 h4 h5 h6 h7; unfold paramV; simp only [PartT.kind, PartT.text, PartT.op, PartT.quoted])
    | (go_at_call 32; refine (HM.out.1 S E' (fun k => P k ∧ k < w.heap.size) f g ⟨.mk k t ⟨#[37]⟩ q pw pb, xv, xs, xa, xm⟩ A n c ba A2 c2 y y' e1 e' r _ (FldAt.below (FldAt.env_of (FldAt.below HH.out.1 (below_a _ _)) (EnvAt.below HH.out.2 (below_a _ _)) H1.out.2.1) (two_below _ _ _)) (EnvAt.below H1.out.1 (two_below _ _ _)) (WordAt.below (WordAt.mod (WordAt.below (WordAt.lt HW.out.1) (below_a _ _)) H1.out.2.1 (fun k hk => HW.out.2.2 k hk.1)) (two_below _ _ _)) HW.out.2.1 (fun k hk he => HW.out.2.2 k hk.1 (H1.out.2.2.1 k (Nat.lt_of_lt_of_le hk.2 (by simp)) he)) (Kd.C_below H1.out.2.2.2 (two_below _ _ _)) HB.out.1 HB.out.2 HM.out.2).mono ?_; rintro en w2 ⟨rfl, h1⟩; have H2 := Lib.hid h1; clear h1))
  go_ret
  exact ⟨rfl, .before (below_a _ _) (.after_env H1.out.2.1 H1.out.2.2.1 (.before (two_below _ _ _) H2.out))⟩

set_option maxHeartbeats 3200000 in
set_option maxRecDepth 100000 in
theorem param_13 {M : ParamT → FT → EnvT → Option Res} {deep : Int} {d : Nat} (hM : MOk 32 M deep d) (S E P : Nat → Prop) (f g : Nat) (k : Int) (t : B) (q : Bool) (pw : List PartT) (pb : Option (B × Bool)) (A : Option Addr) (n c : Nat) (ba : Option Addr) (y y' : FT) (e e1 e' : EnvT) (x : ParamT) (r : Int) (w : World) (H : FldAt S w f g deep y) (HE : EnvAt E w g e)
    (hw : WordAt d P w A n pw) (hc : n ≤ c) (hP : ∀ k, P k → ¬ E k) (hx : askP e (.mk k t ⟨#[37, 37]⟩ q pw pb) = some (x, e1)) (hv : x.value.size ≤ bigT) (hl : x.args.length < big) (h : M x y e1 = some (r, y', e')) :
    Calls Tryd.prog 21 #[.pointer (some ⟨f, 0, none⟩), partV (.mk k t ⟨#[37, 37]⟩ q pw pb) (.slice A n c) (.pointer ba)] w fun en w' => en = .returned (.int .i64 r) ∧ MPost S E w f g deep y' e' w' := by
  have hxp : x.p = .mk k t ⟨#[37, 37]⟩ q pw pb := by
    obtain ⟨v, st, l, -, hx⟩ := askP_some hx
    rw [hx]
  obtain ⟨xp, xv, xs, xa, xm⟩ := x
  dsimp only at hxp hv hl
  subst hxp
  have HH := Lib.hid (And.intro H HE)
  have HAS := Lib.hid hx
  have HM := Lib.hid (And.intro hM h)
  have HW := Lib.hid (And.intro hw (And.intro hc hP))
  have HB := Lib.hid (And.intro hv hl)
  have hmm := @run_makeMap Tryd.prog
  clear h H HE hx hM hw hc hP hv hl
  unfold partV
  simp only [PartT.kind, PartT.text, PartT.op, PartT.quoted]
  go_enter Tryd.func21, Tryd.ntmps21
  go_wp2_with (first
    | (go_at_call 25; refine (ask_walk S E f g deep y e e1 (.mk k t ⟨#[37, 37]⟩ q pw pb) A n c ba _ _ (FldAt.below HH.out.1 (below_a _ _)) (EnvAt.below HH.out.2 (below_a _ _)) HAS.out).mono ?_; rintro en w1 ⟨av, E', rfl, ⟨A2, n2, c2, rfl, rfl, h5, h6, h7⟩, h2, h3, h4⟩; have HO := Lib.hid (keep_obj HH.out.2 h3 (Nat.le_refl _) (heap_alloc_new w _)); obtain ⟨q1, q2, q3⟩ := box_cells HO.out; have H1 := Lib.hid (And.intro h2 (And.intro h3 (And.intro h4 h6))); clear h2 h3 h4 h5 h6 h7; unfold paramV; simp only [PartT.kind, PartT.text, PartT.op, PartT.quoted])
    | (go_at_call 32; refine (HM.out.1 S E' (fun k => P k ∧ k < w.heap.size) f g ⟨.mk k t ⟨#[37, 37]⟩ q pw pb, xv, xs, xa, xm⟩ A n c ba A2 c2 y y' e1 e' r _ (FldAt.below (FldAt.env_of (FldAt.below HH.out.1 (below_a _ _)) (EnvAt.below HH.out.2 (below_a _ _)) H1.out.2.1) (two_below _ _ _)) (EnvAt.below H1.out.1 (two_below _ _ _)) (WordAt.below (WordAt.mod (WordAt.below (WordAt.lt HW.out.1) (below_a _ _)) H1.out.2.1 (fun k hk => HW.out.2.2 k hk.1)) (two_below _ _ _)) HW.out.2.1 (fun k hk he => HW.out.2.2 k hk.1 (H1.out.2.2.1 k (Nat.lt_of_lt_of_le hk.2 (by simp)) he)) (Kd.C_below H1.out.2.2.2 (two_below _ _ _)) HB.out.1 HB.out.2 HM.out.2).mono ?_; rintro en w2 ⟨rfl, h1⟩; have H2 := Lib.hid h1; clear h1))
  go_ret
  exact ⟨rfl, .before (below_a _ _) (.after_env H1.out.2.1 H1.out.2.2.1 (.before (two_below _ _ _) H2.out))⟩

set_option maxHeartbeats 3200000 in
set_option maxRecDepth 100000 in
theorem param_none (S E : Nat → Prop) (f g : Nat) (deep : Int) (k : Int) (t op : B) (q : Bool) (pw : List PartT) (pb : Option (B × Bool)) (A : Option Addr) (n c : Nat) (ba : Option Addr) (y : FT) (e e1 : EnvT) (x : ParamT) (w : World) (H : FldAt S w f g deep y) (HE : EnvAt E w g e)
    (hx : askP e (.mk k t op q pw pb) = some (x, e1)) (hop : op ∉ opsL) :
    Calls Tryd.prog 21 #[.pointer (some ⟨f, 0, none⟩), partV (.mk k t op q pw pb) (.slice A n c) (.pointer ba)] w fun en w' => en = .returned (.int .i64 2) ∧ MPost S E w f g deep y e1 w' := by
  have hxp : x.p = .mk k t op q pw pb := by
    obtain ⟨v, st, l, -, hx⟩ := askP_some hx
    rw [hx]
  obtain ⟨xp, xv, xs, xa, xm⟩ := x
  dsimp only at hxp
  subst hxp
  have HH := Lib.hid (And.intro H HE)
  have HAS := Lib.hid hx
  have hmm := @run_makeMap Tryd.prog
  clear H HE hx
  unfold partV
  simp only [PartT.kind, PartT.text, PartT.op, PartT.quoted]
  go_enter Tryd.func21, Tryd.ntmps21
  go_wp2_with (go_at_call 25; refine (ask_walk S E f g deep y e e1 (.mk k t op q pw pb) A n c ba _ _ (FldAt.below HH.out.1 (below_a _ _)) (EnvAt.below HH.out.2 (below_a _ _)) HAS.out).mono ?_; rintro en w1 ⟨av, E', rfl, ⟨A2, n2, c2, rfl, rfl, h5, h6, h7⟩, h2, h3, h4⟩; have HO := Lib.hid (keep_obj HH.out.2 h3 (Nat.le_refl _) (heap_alloc_new w _)); obtain ⟨q1, q2, q3⟩ := box_cells HO.out; have H1 := Lib.hid (And.intro h2 (And.intro h3 (And.intro h4 h6))); clear h2 h3 h4 h5 h6 h7; unfold paramV; simp only [PartT.kind, PartT.text, PartT.op, PartT.quoted])
  go_ret
  exact ⟨rfl, .before (below_a _ _) (.after_env H1.out.2.1 H1.out.2.2.1 (.same (FldAt.env_of (FldAt.below HH.out.1 (below_a _ _)) (EnvAt.below HH.out.2 (below_a _ _)) H1.out.2.1) H1.out.1 (two_below _ _ _)))⟩

end Go.Proofs.YthbnnlhkcaomlaaDoor.Ex
