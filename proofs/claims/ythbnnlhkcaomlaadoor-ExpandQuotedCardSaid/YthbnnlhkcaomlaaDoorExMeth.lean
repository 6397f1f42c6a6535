/- The methods of a parameter that leave the environment alone: tell, must, size. -/
import Derived.Test.YthbnnlhkcaomlaaDoorExAsk
namespace Go.Proofs.YthbnnlhkcaomlaaDoor.Ex
open Go.RowKit Go.Shelf Go.Proofs.YthbnnlhkcaomlaaDoorW.PrintWords Go.Proofs.YthbnnlhkcaomlaaDoor.Gl

/-- Behind a method: the fields, and the environment. -/
def MPost (S E : Nat → Prop) (w : World) (f g : Nat) (deep : Int) (y' : FT) (e' : EnvT) (w' : World) : Prop :=
  ∃ S' E', FldAt S' w' f g deep y' ∧ EnvAt E' w' g e' ∧ Mod (fun k => S k ∨ E k) w w' ∧ (∀ k, k < w.heap.size → S' k → S k) ∧ (∀ k, k < w.heap.size → E' k → E k)
theorem MPost.of_fld {S E : Nat → Prop} {w w' : World} {f g : Nat} {deep : Int} {y y' : FT} {e : EnvT} (H : FldAt S w f g deep y) (HE : EnvAt E w g e) (h : FldPost S w f g deep y' w') : MPost S E w f g deep y' e w' := by
  obtain ⟨ov, lv, vs, hf⟩ := H
  obtain ⟨S', h1, h2, h3⟩ := h
  exact ⟨S', E, h1, HE.fields h2 hf.ty hf.tabS, h2.mono (fun _ _ h => .inl h), h3, fun _ _ h => h⟩
theorem MPost.same {S E : Nat → Prop} {w w' : World} {f g : Nat} {deep : Int} {y : FT} {e : EnvT} (H : FldAt S w f g deep y) (HE : EnvAt E w g e) (hb : Below w.heap.size w w') : MPost S E w f g deep y e w' :=
  ⟨S, E, H.below hb, HE.below hb, Mod.below hb, fun _ _ h => h, fun _ _ h => h⟩
/-- Behind something that made memory alone. -/
theorem MPost.before {S E : Nat → Prop} {w w1 w' : World} {f g : Nat} {deep : Int} {y' : FT} {e' : EnvT} (hb : Below w.heap.size w w1) (h : MPost S E w1 f g deep y' e' w') : MPost S E w f g deep y' e' w' := by
  obtain ⟨S', E', h1, h2, h3, h4, h5⟩ := h
  exact ⟨S', E', h1, h2, (Mod.below hb).trans h3 (fun _ _ h => h), fun k hk => h4 k (Nat.lt_of_lt_of_le hk hb.size), fun k hk => h5 k (Nat.lt_of_lt_of_le hk hb.size)⟩
/-- Behind the environment's call and memory made. -/
theorem MPost.after_env {S E E1 : Nat → Prop} {w w1 w' : World} {f g : Nat} {deep : Int} {y' : FT} {e' : EnvT} (hm : Mod E w w1) (hs : ∀ k, k < w.heap.size → E1 k → E k) (h : MPost S E1 w1 f g deep y' e' w') : MPost S E w f g deep y' e' w' := by
  obtain ⟨S', E', h1, h2, h3, h4, h5⟩ := h
  exact ⟨S', E', h1, h2, (hm.mono (fun _ _ h => Or.inr h)).trans h3 (fun i hi h => h.elim .inl (fun h => .inr (hs i hi h))), fun k hk => h4 k (Nat.lt_of_lt_of_le hk hm.size), fun k hk he => hs k hk (h5 k (Nat.lt_of_lt_of_le hk hm.size) he)⟩

theorem box_below {W W1 : World} {o : Obj} (h : Below (W.alloc o).heap.size (W.alloc o) W1) (i : Nat) (u : Value) : Below W.heap.size W (W1.setCell ⟨W.heap.size, i, none⟩ u) :=
  ((below_a W o).trans (h.mono (by simp))).setCell (Nat.le_refl _) u
theorem tellP_some {x : ParamT} {y y' : FT} {e e' : EnvT} {r : Int} (h : tellP x y e = some (r, y', e')) : r = 0 ∧ e' = e ∧ putP y (runP x.p x.value) = some y' := by
  unfold tellP at h
  rw [Option.map_eq_some_iff] at h
  obtain ⟨z, h1, h2⟩ := h
  cases h2
  exact ⟨rfl, rfl, h1⟩
theorem tell_m (S E : Nat → Prop) (f g : Nat) (deep : Int) (x : ParamT) (A : Option Addr) (n c : Nat) (ba : Option Addr) (A2 : Option Addr) (n2 c2 : Nat) (y y' : FT) (e e' : EnvT) (r : Int) (w : World) (H : FldAt S w f g deep y) (HE : EnvAt E w g e) (h : tellP x y e = some (r, y', e')) :
    Calls Tryd.prog 38 #[.pointer (some ⟨f, 0, none⟩), paramV x (.slice A n c) (.pointer ba) (.slice A2 n2 c2)] w fun en w' => en = .returned (.int .i64 r) ∧ MPost S E w f g deep y' e' w' := by
  obtain ⟨hr, he, hp⟩ := tellP_some h
  subst hr he
  exact (tell_walk S f g deep x A n c ba A2 n2 c2 y y' w H hp).mono fun en w' ⟨h1, h2⟩ => ⟨h1, .of_fld H HE h2⟩

set_option maxHeartbeats 800000 in
set_option maxRecDepth 100000 in
theorem must_m (S E : Nat → Prop) (f g : Nat) (deep : Int) (x : ParamT) (A : Option Addr) (n c : Nat) (ba : Option Addr) (A2 : Option Addr) (n2 c2 : Nat) (y y' : FT) (e e' : EnvT) (r : Int) (w : World) (H : FldAt S w f g deep y) (HE : EnvAt E w g e) (h : mustP x y e = some (r, y', e')) :
    Calls Tryd.prog 31 #[.pointer (some ⟨f, 0, none⟩), paramV x (.slice A n c) (.pointer ba) (.slice A2 n2 c2)] w fun en w' => en = .returned (.int .i64 r) ∧ MPost S E w f g deep y' e' w' := by
  have HH := Lib.hid (And.intro H HE)
  unfold mustP at h
  clear H HE
  obtain ⟨p, v, st, l, mi⟩ := x
  cases mi with
  | true =>
    cases h
    unfold paramV
    go_enter Tryd.func31, Tryd.ntmps31
    go_wp2
    go_ret
    exact ⟨rfl, .same HH.out.1 HH.out.2 (below_a _ _)⟩
  | false =>
    have HT := Lib.hid (show tellP ⟨p, v, st, l, false⟩ y e = some (r, y', e') from h)
    clear h
    unfold paramV
    go_enter Tryd.func31, Tryd.ntmps31
    go_wp2_with (go_at_call 38; refine (tell_m S E f g deep ⟨p, v, st, l, false⟩ A n c ba A2 n2 c2 y y' e e' r _ (FldAt.below HH.out.1 (below_a _ _)) (EnvAt.below HH.out.2 (below_a _ _)) HT.out).mono ?_; rintro en w1 ⟨rfl, h1⟩; have H1 := Lib.hid h1; clear h1)
    go_ret
    exact ⟨rfl, .before (below_a _ _) H1.out⟩

set_option maxHeartbeats 1600000 in
set_option maxRecDepth 100000 in
theorem size_m (S E : Nat → Prop) (f g : Nat) (deep : Int) (x : ParamT) (A : Option Addr) (n c : Nat) (ba : Option Addr) (A2 : Option Addr) (c2 : Nat) (y y' : FT) (e e' : EnvT) (r : Int) (w : World) (H : FldAt S w f g deep y) (HE : EnvAt E w g e) (hv : x.value.size ≤ bigT) (hl : x.args.length < big) (h : sizeP x y e = some (r, y', e')) :
    Calls Tryd.prog 27 #[.pointer (some ⟨f, 0, none⟩), paramV x (.slice A n c) (.pointer ba) (.slice A2 x.args.length c2)] w fun en w' => en = .returned (.int .i64 r) ∧ MPost S E w f g deep y' e' w' := by
  have HH := Lib.hid (And.intro H HE)
  have HB := Lib.hid (And.intro hv hl)
  unfold sizeP at h
  clear H HE hv hl
  obtain ⟨p, v, st, l, mi⟩ := x
  obtain ⟨k, t, op, q, pw, pb⟩ := p
  have h : tellP ⟨.mk k t op q pw pb, itoaB (if allP t then (l.length : Int) else (v.size : Int)), st, l, mi⟩ y e = some (r, y', e') := h
  obtain ⟨b, hb⟩ : ∃ b, allP t = b := ⟨_, rfl⟩
  rw [hb] at h
  have HA := Lib.hid hb
  clear hb
  cases b
  all_goals
    have HT := Lib.hid h
    clear h
    unfold paramV
    simp only [PartT.kind, PartT.text, PartT.op, PartT.quoted]
    go_enter Tryd.func27, Tryd.ntmps27
    go_wp2_with (first
      | (go_at_call 35; refine (all_walk t _).mono ?_; rintro en w1 ⟨rfl, rfl⟩; rw [HA.out])
      | (go_at_call 34; refine (itoa_call _ (by omega) (by have h1 := HB.out.1; have h2 := HB.out.2; unfold big at h2; unfold bigT at h1; first | omega | (simp only at h1 h2; omega)) _ (EnvAt.tab (EnvAt.below HH.out.2 (below_a _ _)))).mono ?_; rintro en w1 ⟨rfl, h1⟩; have H1 := Lib.hid h1; obtain ⟨p1, p2, p3⟩ := box_cells (below_obj h1 (heap_alloc_new w _)); clear h1)
      | (go_at_call 38; refine (tell_m S E f g deep _ A n c ba A2 l.length c2 y y' e e' r _ (FldAt.below HH.out.1 (box_below H1.out 6 _)) (EnvAt.below HH.out.2 (box_below H1.out 6 _)) HT.out).mono ?_; rintro en w2 ⟨rfl, h2⟩; have H2 := Lib.hid h2; clear h2))
    go_ret
    exact ⟨rfl, .before (box_below H1.out 6 _) H2.out⟩

end Go.Proofs.YthbnnlhkcaomlaaDoor.Ex
