/- The walk of ask, at '#'. -/
import Derived.Test.YthbnnlhkcaomlaaDoorExAskL
namespace Go.Proofs.YthbnnlhkcaomlaaDoor.Ex
open Go.RowKit Go.Shelf Go.Proofs.YthbnnlhkcaomlaaDoorW.PrintWords Go.Proofs.YthbnnlhkcaomlaaDoor.Gl

set_option maxHeartbeats 800000 in
set_option maxRecDepth 100000 in
theorem ask_hash (S E : Nat → Prop) (f g : Nat) (deep : Int) (y : FT) (e e' : EnvT) (k : Int) (op : B) (q : Bool) (pw : List PartT) (pb : Option (B × Bool)) (A : Option Addr) (n c : Nat) (ba : Option Addr) (x : ParamT) (w : World) (HF : FldAt S w f g deep y) (HE : EnvAt E w g e)
    (h : askP e (.mk k ⟨#[35]⟩ op q pw pb) = some (x, e')) :
    Calls Tryd.prog 25 #[.pointer (some ⟨f, 0, none⟩), partV (.mk k ⟨#[35]⟩ op q pw pb) (.slice A n c) (.pointer ba)] w fun en w' => AskPost E w g x (.slice A n c) (.pointer ba) e' en w' := by
  unfold partV
  simp only [PartT.kind, PartT.text, PartT.op, PartT.quoted]
  obtain ⟨ov, lv, vs, hf⟩ := HF
  obtain ⟨og, oc, rfl⟩ := fld_form hf
  generalize hvn : vs.length = m at hf
  obtain ⟨-, c0, c1, c2, f1, cl, fl, ft, ot, ne⟩ := fld_cells hf
  obtain ⟨v, st, l, hv, hx⟩ := askP_some h
  have hv : (argsE e).map (fun e' => ((itoaB e.args.length, true, ([] : List B)), e')) = some ((v, st, l), e') := hv
  rw [Option.map_eq_some_iff] at hv
  obtain ⟨e1, hA, hv⟩ := hv
  cases hv
  have HA := Lib.hid hA
  have HX := Lib.hid hx
  clear hA hx h
  have HEE := Lib.hid HE
  have k0 : ∀ o1 o2 o3, (((w.alloc o1).alloc o2).alloc o3).cell? ⟨f, 0, none⟩ = some (.iface 28 (.pointer (some ⟨g, 0, none⟩))) := fun o1 o2 o3 => pw_cell_below (below_3 w o1 o2 o3) c0
  clear HE hf hvn c1 c2 f1 cl fl ot ne
  obtain ⟨hc, hhc⟩ : ∃ hc, hasColon op = hc := ⟨_, rfl⟩
  have HH := Lib.hid hhc
  have HC : Hid (Lib.hasPrefix op.data.toList (⟨#[58]⟩ : B).data.toList = hc) := hhc
  have HT := Lib.hid HEE.out.tab
  have HG := Lib.hid HEE.out.facts
  clear hhc
  obtain ⟨V, hV⟩ : ∃ V, itoaB e.args.length = V := ⟨_, rfl⟩
  have HV := Lib.hid hV
  clear hV
  have i1 := inv_args (some ⟨g, 0, none⟩)
  have i2 := inv_get (some ⟨g, 0, none⟩)
  have i3 := inv_status (some ⟨g, 0, none⟩)
  cases hc
  all_goals
    go_enter Tryd.func25, Tryd.ntmps25
    go_wp2_with (first
      | (go_at_call 100; refine (args_walk E g e _ _ (EnvAt.below HEE.out (below_3 _ _ _ _)) HA.out).mono ?_; rintro en w1 ⟨b1, n1, cc1, E', rfl, hn1, hc1, hC1, hb1, hE1, hm1, hs1⟩
         obtain ⟨y1, y3, y2⟩ := three_new w _ _ _
         have HO1 := Lib.hid (keep_obj HEE.out hm1 (Nat.le_refl _) y1); have HO2 := Lib.hid (keep_obj HEE.out hm1 (by omega) y2); have HO3 := Lib.hid (keep_obj HEE.out hm1 (by omega) y3)
         have HQ := Lib.hid (And.intro hE1 (And.intro hm1 hs1)); have HN := Lib.hid hn1
         clear hn1 hC1 hb1 hE1 hm1 hs1 y1 y2 y3 k0)
      | (go_at_call 34; rw [HN.out]; refine (itoa_call _ (by omega) (by have := HG.out.1; unfold big at this; omega) _ (EnvAt.tab HQ.out.1)).mono ?_; rintro en w2 ⟨rfl, hb2⟩
         rw [HV.out]
         obtain ⟨p1, p2, p3⟩ := box_cells (below_obj hb2 HO1.out); obtain ⟨q1, q2, q3⟩ := box_cells (below_obj hb2 HO2.out); obtain ⟨r1, r2, r3⟩ := box_cells (below_obj hb2 HO3.out); have HB2 := Lib.hid hb2; clear hb2)
      | (go_at_call 37; refine (Tryd.strings_HasPrefix _ _ _).mono ?_; rintro en w3 ⟨rfl, rfl⟩; rw [HC.out]))
  all_goals
    refine ask_end2 (N := w.heap.size + 1) ?hb rfl rfl ?hp
    case hb => exact heap_other (heap_other (heap_other (below_obj HB2.out HO3.out) (by omega)) (by omega)) (by omega)
    case hp =>
      refine ⟨.slice none 0 0, E', ?_, by rw [HX.out]; exact ArgV.none_, ask_fin HEE.out (below_3 w _ _ _) HQ.out.1 HQ.out.2.1 HQ.out.2.2 HB2.out (N1 := w.heap.size + 1) (N2 := w.heap.size + 1 + 1) (by omega) (by omega) (blk_ty HO3.out) (blk_ty HO2.out) (by simp) (by simp) ?_⟩
      · rw [HX.out]
        simp only [paramV, PartT.kind, PartT.text, PartT.op, PartT.quoted, HV.out, HH.out, Bool.not_true, Bool.false_or, Bool.false_and, Bool.true_and, isEmpty_eq]
      · exact Mod.trans (S' := fun k => k = w.heap.size + 1 ∨ k = w.heap.size + 1 + 1) (Mod.setCell (Mod.setCell (Mod.setCell (Mod.refl _ _) (fun _ => .inr rfl) _) (fun _ => .inr rfl) _) (fun _ => .inr rfl) _) (ten_mod (.inl rfl)) (fun _ _ h => h)

end Go.Proofs.YthbnnlhkcaomlaaDoor.Ex
