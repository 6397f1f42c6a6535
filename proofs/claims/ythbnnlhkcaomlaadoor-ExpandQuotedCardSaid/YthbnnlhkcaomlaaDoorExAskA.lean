/- The walk of ask, at a digit. -/
import Derived.Test.YthbnnlhkcaomlaaDoorExAskL
namespace Go.Proofs.YthbnnlhkcaomlaaDoor.Ex
open Go.RowKit Go.Shelf Go.Proofs.YthbnnlhkcaomlaaDoorW.PrintWords Go.Proofs.YthbnnlhkcaomlaaDoor.Gl

set_option linter.unusedSimpArgs false in
set_option maxHeartbeats 3200000 in
set_option maxRecDepth 100000 in
theorem ask_digit (S E : Nat → Prop) (f g : Nat) (deep : Int) (y : FT) (e e' : EnvT) (k : Int) (t op : B) (q : Bool) (pw : List PartT) (pb : Option (B × Bool)) (A : Option Addr) (n c : Nat) (ba : Option Addr) (x : ParamT) (w : World) (HF : FldAt S w f g deep y) (HE : EnvAt E w g e)
    (hd : isDigit19 t = true) (h : askP e (.mk k t op q pw pb) = some (x, e')) :
    Calls Tryd.prog 25 #[.pointer (some ⟨f, 0, none⟩), partV (.mk k t op q pw pb) (.slice A n c) (.pointer ba)] w fun en w' => AskPost E w g x (.slice A n c) (.pointer ba) e' en w' := by
  unfold partV
  simp only [PartT.kind, PartT.text, PartT.op, PartT.quoted]
  obtain ⟨ov, lv, vs, hf⟩ := HF
  obtain ⟨og, oc, rfl⟩ := fld_form hf
  generalize hvn : vs.length = m at hf
  obtain ⟨-, c0, c1, c2, f1, cl, fl, ft, ot, ne⟩ := fld_cells hf
  obtain ⟨v, st, l, hv, hx⟩ := askP_some h
  have hv : askV e t = some ((v, st, l), e') := hv
  unfold askV at hv
  rw [if_pos hd, Option.map_eq_some_iff] at hv
  obtain ⟨e1, hA, hv⟩ := hv
  have hz : t.size = 1 := by
    unfold isDigit19 at hd
    rw [Bool.and_eq_true, decide_eq_true_eq] at hd
    exact hd.1
  have hlt : 0 < t.size := by omega
  have hch : 49 ≤ (t[0]'hlt).toNat ∧ (t[0]'hlt).toNat ≤ 57 := by
    unfold isDigit19 at hd
    rw [toList_head t hlt, decide_eq_true hz, Bool.true_and, Bool.and_eq_true, decide_eq_true_eq, decide_eq_true_eq] at hd
    exact hd
  rw [toList_head t hlt] at hv
  have HVV := Lib.hid hv
  clear hv hd
  have HA := Lib.hid hA
  have HX := Lib.hid hx
  clear hA hx h
  have HEE := Lib.hid HE
  have k0 : ∀ o1 o2 o3, (((w.alloc o1).alloc o2).alloc o3).cell? ⟨f, 0, none⟩ = some (.iface 28 (.pointer (some ⟨g, 0, none⟩))) := fun o1 o2 o3 => pw_cell_below (below_3 w o1 o2 o3) c0
  clear HE hf hvn c1 c2 f1 cl fl ot ne
  obtain ⟨hc, hhc⟩ : ∃ hc, hasColon op = hc := ⟨_, rfl⟩
  have HH := Lib.hid hhc
  have HC : Hid (Lib.hasPrefix op.data.toList (⟨#[58]⟩ : B).data.toList = hc) := hhc
  have HT := Lib.hid HEE.out.tab
  have HG := Lib.hid HEE.out.facts
  clear hhc
  obtain ⟨D, hD⟩ : ∃ D, (t[0]'hlt).toNat = D := ⟨_, rfl⟩
  have HD := Lib.hid hD
  have ch1 : (49 : Int) ≤ (((t[0]'hlt).toNat : Nat) : Int) := by omega
  have ch2 : (((t[0]'hlt).toNat : Nat) : Int) ≤ 57 := by omega
  clear hD
  have i1 := inv_args (some ⟨g, 0, none⟩)
  have i2 := inv_get (some ⟨g, 0, none⟩)
  have i3 := inv_status (some ⟨g, 0, none⟩)
  by_cases hle : D - 48 ≤ e.args.length
  · obtain ⟨av, hav⟩ : ∃ av, e.args[D - 49]? = some av := ⟨_, List.getElem?_eq_getElem (by have := HD.out; omega)⟩
    have hv := HVV.out
    rw [HD.out, if_pos hle, List.getD_eq_getElem?_getD, hav] at hv
    cases hv
    have HLE := Lib.hid hle
    have HAV := Lib.hid hav
    have hle1 : (((t[0]'hlt).toNat : Nat) : Int) - 48 ≤ ((e.args.length : Nat) : Int) := by have := HD.out; omega
    clear hav hle
    cases hc
    all_goals
      go_enter Tryd.func25, Tryd.ntmps25
      go_wp2
      go_region_with (go_at_call 100; refine (args_walk E g e _ _ (EnvAt.below HEE.out ((below_3 _ _ _ _).trans (Below.refl _ _).drew)) HA.out).mono ?_; rintro en w1 ⟨b1, _, cc1, E', rfl, rfl, hc1, hC1, hb1, hE1, hm1, hs1⟩)
      all_goals
        obtain ⟨y1, y3, y2⟩ := three_new w _ _ _
        have HO1 := Lib.hid (keep_obj HEE.out hm1 (Nat.le_refl _) y1); have HO2 := Lib.hid (keep_obj HEE.out hm1 (by omega) y2); have HO3 := Lib.hid (keep_obj HEE.out hm1 (by omega) y3)
        have HQ := Lib.hid (And.intro hE1 (And.intro hm1 hs1))
        obtain ⟨p1, p2, p3⟩ := box_cells HO1.out; obtain ⟨q1, q2, q3⟩ := box_cells HO2.out; obtain ⟨r1, r2, r3⟩ := box_cells HO3.out
        have hcell : w1.cell? ⟨b1, (t[0]'hlt).toNat - 48 - 1, none⟩ = some (.string av) := by
          have hx := str_cell hC1 (D - 49) av HAV.out
          rwa [show 0 + (D - 49) = (t[0]'hlt).toNat - 48 - 1 from by have := HD.out; omega] at hx
        clear hE1 hm1 hs1 y1 y2 y3 k0 hC1 hb1
        go_wp2_with (go_at_call 37; refine (Tryd.strings_HasPrefix _ _ _).mono ?_; rintro en w4 ⟨rfl, rfl⟩; rw [HC.out])
    all_goals
      refine ask_end2 (N := w.heap.size + 1) ?hb rfl rfl ?hp
      case hb =>
        (with_reducible repeat (refine heap_other ?_ ?_; (rotate_left; omega)))
        with_reducible exact HO3.out
      case hp =>
        refine ⟨.slice none 0 0, E', ?_, by rw [HX.out]; exact ArgV.none_, ask_fin HEE.out ((below_3 w _ _ _).trans (Below.refl _ _).drew) HQ.out.1 HQ.out.2.1 HQ.out.2.2 (Below.refl _ _) (N1 := w.heap.size + 1) (N2 := w.heap.size + 1 + 1) (by omega) (by omega) (blk_ty HO3.out) (blk_ty HO2.out) (by simp) (by simp) ?_⟩
        · rw [HX.out]
          simp only [paramV, PartT.kind, PartT.text, PartT.op, PartT.quoted, HH.out, Bool.not_true, Bool.not_false, Bool.true_or, Bool.false_or, Bool.false_and, Bool.true_and, isEmpty_eq, if_true, Bool.false_eq_true, if_false, Option.getD_some]
        · refine Mod.trans (S' := fun k => k = w.heap.size + 1 ∨ k = w.heap.size + 1 + 1) ?_ (ten_mod (.inl rfl)) (fun _ _ h => h)
          (with_reducible repeat refine set_in ?_ (Or.inr rfl))
          with_reducible exact Mod.refl _ _
  · have hv := HVV.out
    rw [HD.out, if_neg hle] at hv
    cases hv
    have hle1 : ((e.args.length : Nat) : Int) < (((t[0]'hlt).toNat : Nat) : Int) - 48 := by have := HD.out; omega
    clear hle
    cases hc
    all_goals
      go_enter Tryd.func25, Tryd.ntmps25
      go_wp2
      go_region_with (go_at_call 100; refine (args_walk E g e _ _ (EnvAt.below HEE.out ((below_3 _ _ _ _).trans (Below.refl _ _).drew)) HA.out).mono ?_; rintro en w1 ⟨b1, _, cc1, E', rfl, rfl, hc1, hC1, hb1, hE1, hm1, hs1⟩)
      all_goals
        obtain ⟨y1, y3, y2⟩ := three_new w _ _ _
        have HO1 := Lib.hid (keep_obj HEE.out hm1 (Nat.le_refl _) y1); have HO2 := Lib.hid (keep_obj HEE.out hm1 (by omega) y2); have HO3 := Lib.hid (keep_obj HEE.out hm1 (by omega) y3)
        have HQ := Lib.hid (And.intro hE1 (And.intro hm1 hs1))
        obtain ⟨p1, p2, p3⟩ := box_cells HO1.out; obtain ⟨q1, q2, q3⟩ := box_cells HO2.out; obtain ⟨r1, r2, r3⟩ := box_cells HO3.out
        clear hE1 hm1 hs1 y1 y2 y3 k0 hC1 hb1
        go_wp2_with (go_at_call 37; refine (Tryd.strings_HasPrefix _ _ _).mono ?_; rintro en w4 ⟨rfl, rfl⟩; rw [HC.out])
    all_goals
      refine ask_end2 (N := w.heap.size + 1) ?hb rfl rfl ?hp
      case hb =>
        (with_reducible repeat (refine heap_other ?_ ?_; (rotate_left; omega)))
        with_reducible exact HO3.out
      case hp =>
        refine ⟨.slice none 0 0, E', ?_, by rw [HX.out]; exact ArgV.none_, ask_fin HEE.out ((below_3 w _ _ _).trans (Below.refl _ _).drew) HQ.out.1 HQ.out.2.1 HQ.out.2.2 (Below.refl _ _) (N1 := w.heap.size + 1) (N2 := w.heap.size + 1 + 1) (by omega) (by omega) (blk_ty HO3.out) (blk_ty HO2.out) (by simp) (by simp) ?_⟩
        · rw [HX.out]
          simp only [paramV, PartT.kind, PartT.text, PartT.op, PartT.quoted, HH.out, Bool.not_true, Bool.not_false, Bool.true_or, Bool.false_or, Bool.false_and, Bool.true_and, isEmpty_eq, if_true, Bool.false_eq_true, if_false, Option.getD_some]
        · refine Mod.trans (S' := fun k => k = w.heap.size + 1 ∨ k = w.heap.size + 1 + 1) ?_ (ten_mod (.inl rfl)) (fun _ _ h => h)
          (with_reducible repeat refine set_in ?_ (Or.inr rfl))
          with_reducible exact Mod.refl _ _

end Go.Proofs.YthbnnlhkcaomlaaDoor.Ex
