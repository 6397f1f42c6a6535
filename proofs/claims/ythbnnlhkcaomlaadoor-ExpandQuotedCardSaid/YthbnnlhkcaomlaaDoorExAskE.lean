/- The walk of ask, at a variable. -/
import Derived.Test.YthbnnlhkcaomlaaDoorExAskL
namespace Go.Proofs.YthbnnlhkcaomlaaDoor.Ex
open Go.RowKit Go.Shelf Go.Proofs.YthbnnlhkcaomlaaDoorW.PrintWords Go.Proofs.YthbnnlhkcaomlaaDoor.Gl

set_option linter.unusedSimpArgs false in
set_option maxHeartbeats 3200000 in
set_option maxRecDepth 100000 in
theorem ask_get (S E : Nat → Prop) (f g : Nat) (deep : Int) (y : FT) (e e' : EnvT) (k : Int) (t op : B) (q : Bool) (pw : List PartT) (pb : Option (B × Bool)) (A : Option Addr) (n c : Nat) (ba : Option Addr) (x : ParamT) (w : World) (HF : FldAt S w f g deep y) (HE : EnvAt E w g e)
    (hd : isDigit19 t = false) (h35 : t ≠ ⟨#[35]⟩) (h63 : t ≠ ⟨#[63]⟩) (hall : allP t = false) (h : askP e (.mk k t op q pw pb) = some (x, e')) :
    Calls Tryd.prog 25 #[.pointer (some ⟨f, 0, none⟩), partV (.mk k t op q pw pb) (.slice A n c) (.pointer ba)] w fun en w' => AskPost E w g x (.slice A n c) (.pointer ba) e' en w' := by
  unfold partV
  simp only [PartT.kind, PartT.text, PartT.op, PartT.quoted]
  obtain ⟨ov, lv, vs, hf⟩ := HF
  obtain ⟨og, oc, rfl⟩ := fld_form hf
  generalize hvn : vs.length = m at hf
  obtain ⟨-, c0, c1, c2, f1, cl, fl, ft, ot, ne⟩ := fld_cells hf
  obtain ⟨v, st, l, hv, hx⟩ := askP_some h
  have hv : askV e t = some ((v, st, l), e') := hv
  unfold askV at hv
  rw [if_neg (by rw [hd]; decide), if_neg h35, if_neg h63, if_neg (by rw [hall]; decide), Option.map_eq_some_iff] at hv
  obtain ⟨⟨⟨gv, is⟩, e1⟩, hA, hv⟩ := hv
  cases hv
  have HA := Lib.hid hA
  have HX := Lib.hid hx
  clear hA hx h
  have HEE := Lib.hid HE
  have k0 : ∀ o1 o2 o3, (((w.alloc o1).alloc o2).alloc o3).cell? ⟨f, 0, none⟩ = some (.iface 28 (.pointer (some ⟨g, 0, none⟩))) := fun o1 o2 o3 => pw_cell_below (below_3 w o1 o2 o3) c0
  clear HE hf hvn c1 c2 f1 cl fl ot ne
  obtain ⟨hc, hhc⟩ : ∃ hc, hasColon op = hc := ⟨_, rfl⟩
  have HH := Lib.hid hhc
  have HC : Hid (Lib.hasPrefix op.data.toList (⟨#[58]⟩ : B).data.toList = hc) := hhc
  have HT := Lib.hid HEE.out.tab
  have HG := Lib.hid HEE.out.facts
  clear hhc
  have n1 : ¬ t.toList = [35] := ne_lit h35
  have n2 : ¬ t.toList = [63] := ne_lit h63
  have m1 : (t.toList == [35]) = false := by simpa using n1
  have m2 : (t.toList == [63]) = false := by simpa using n2
  have HALL := Lib.hid hall
  clear hall h35 h63
  have hcase : ¬ t.size = 1 ∨ ∃ hz : t.size = 1, ((t[0]'(by omega)).toNat < 49 ∨ 57 < (t[0]'(by omega)).toNat) := by
    by_cases hz : t.size = 1
    · refine .inr ⟨hz, ?_⟩
      unfold isDigit19 at hd
      rw [toList_head t (by omega), decide_eq_true hz, Bool.true_and] at hd
      simp at hd
      omega
    · exact .inl hz
  clear hd
  have i1 := inv_args (some ⟨g, 0, none⟩)
  have i2 := inv_get (some ⟨g, 0, none⟩)
  have i3 := inv_status (some ⟨g, 0, none⟩)
  rcases hcase with hz | ⟨hz, hch⟩
  · have hz2 : ¬ ((t.size : Nat) : Int) = 1 := by omega
    cases hc <;> cases is
    all_goals
      go_enter Tryd.func25, Tryd.ntmps25
      go_wp2_with (first
        | (go_at_call 35; refine (all_walk t _).mono ?_; rintro en wa ⟨rfl, rfl⟩; rw [HALL.out])
        | (go_at_call 101; refine (get_walk E g e _ t _ _ (EnvAt.below HEE.out (below_3 _ _ _ _)) HA.out).mono ?_; rintro en w1 ⟨rfl, E', hE1, hm1, hs1⟩
           obtain ⟨y1, y3, y2⟩ := three_new w _ _ _
           have HO1 := Lib.hid (keep_obj HEE.out hm1 (Nat.le_refl _) y1); have HO2 := Lib.hid (keep_obj HEE.out hm1 (by omega) y2); have HO3 := Lib.hid (keep_obj HEE.out hm1 (by omega) y3)
           have HQ := Lib.hid (And.intro hE1 (And.intro hm1 hs1))
           obtain ⟨p1, p2, p3⟩ := box_cells HO1.out; obtain ⟨q1, q2, q3⟩ := box_cells HO2.out; obtain ⟨r1, r2, r3⟩ := box_cells HO3.out
           clear hE1 hm1 hs1 y1 y2 y3 k0)
        | (go_at_call 37; refine (Tryd.strings_HasPrefix _ _ _).mono ?_; rintro en w3 ⟨rfl, rfl⟩; rw [HC.out]))
      refine ask_end2 (N := w.heap.size + 1) ?hb rfl rfl ?hp
      case hb =>
        (with_reducible repeat (refine heap_other ?_ ?_; (rotate_left; omega)))
        with_reducible exact HO3.out
      case hp =>
        refine ⟨.slice none 0 0, E', ?_, by rw [HX.out]; exact ArgV.none_, ask_fin HEE.out (below_3 w _ _ _) HQ.out.1 HQ.out.2.1 HQ.out.2.2 (Below.refl _ _) (N1 := w.heap.size + 1) (N2 := w.heap.size + 1 + 1) (by omega) (by omega) (blk_ty HO3.out) (blk_ty HO2.out) (by simp) (by simp) ?_⟩
        · rw [HX.out]
          simp only [paramV, PartT.kind, PartT.text, PartT.op, PartT.quoted, HH.out, Bool.not_true, Bool.not_false, Bool.true_or, Bool.false_or, Bool.false_and, Bool.true_and, isEmpty_eq, if_true, Bool.false_eq_true, if_false]
        · refine Mod.trans (S' := fun k => k = w.heap.size + 1 ∨ k = w.heap.size + 1 + 1) ?_ (ten_mod (.inl rfl)) (fun _ _ h => h)
          with_reducible repeat refine set_in ?_ (Or.inr rfl)
          with_reducible exact Mod.refl _ _
  · have hlt : 0 < t.size := by omega
    have hch2 : (((t[0]'hlt).toNat : Nat) : Int) < 49 ∨ ((49 : Int) ≤ (((t[0]'hlt).toNat : Nat) : Int) ∧ (57 : Int) < (((t[0]'hlt).toNat : Nat) : Int)) := by omega
    clear hch
    rcases hch2 with hch | ⟨hch, hch2⟩ <;> cases hc <;> cases is
    all_goals
      go_enter Tryd.func25, Tryd.ntmps25
      go_wp2_with (first
        | (go_at_call 35; refine (all_walk t _).mono ?_; rintro en wa ⟨rfl, rfl⟩; rw [HALL.out])
        | (go_at_call 101; refine (get_walk E g e _ t _ _ (EnvAt.below HEE.out (below_3 _ _ _ _)) HA.out).mono ?_; rintro en w1 ⟨rfl, E', hE1, hm1, hs1⟩
           obtain ⟨y1, y3, y2⟩ := three_new w _ _ _
           have HO1 := Lib.hid (keep_obj HEE.out hm1 (Nat.le_refl _) y1); have HO2 := Lib.hid (keep_obj HEE.out hm1 (by omega) y2); have HO3 := Lib.hid (keep_obj HEE.out hm1 (by omega) y3)
           have HQ := Lib.hid (And.intro hE1 (And.intro hm1 hs1))
           obtain ⟨p1, p2, p3⟩ := box_cells HO1.out; obtain ⟨q1, q2, q3⟩ := box_cells HO2.out; obtain ⟨r1, r2, r3⟩ := box_cells HO3.out
           clear hE1 hm1 hs1 y1 y2 y3 k0)
        | (go_at_call 37; refine (Tryd.strings_HasPrefix _ _ _).mono ?_; rintro en w3 ⟨rfl, rfl⟩; rw [HC.out]))
      refine ask_end2 (N := w.heap.size + 1) ?hb rfl rfl ?hp
      case hb =>
        (with_reducible repeat (refine heap_other ?_ ?_; (rotate_left; omega)))
        with_reducible exact HO3.out
      case hp =>
        refine ⟨.slice none 0 0, E', ?_, by rw [HX.out]; exact ArgV.none_, ask_fin HEE.out (below_3 w _ _ _) HQ.out.1 HQ.out.2.1 HQ.out.2.2 (Below.refl _ _) (N1 := w.heap.size + 1) (N2 := w.heap.size + 1 + 1) (by omega) (by omega) (blk_ty HO3.out) (blk_ty HO2.out) (by simp) (by simp) ?_⟩
        · rw [HX.out]
          simp only [paramV, PartT.kind, PartT.text, PartT.op, PartT.quoted, HH.out, Bool.not_true, Bool.not_false, Bool.true_or, Bool.false_or, Bool.false_and, Bool.true_and, isEmpty_eq, if_true, Bool.false_eq_true, if_false]
        · refine Mod.trans (S' := fun k => k = w.heap.size + 1 ∨ k = w.heap.size + 1 + 1) ?_ (ten_mod (.inl rfl)) (fun _ _ h => h)
          with_reducible repeat refine set_in ?_ (Or.inr rfl)
          with_reducible exact Mod.refl _ _

end Go.Proofs.YthbnnlhkcaomlaaDoor.Ex
