/- The walk of ask, at '@' and '*'. -/
import Derived.Test.YthbnnlhkcaomlaaDoorExAskL
namespace Go.Proofs.YthbnnlhkcaomlaaDoor.Ex
open Go.RowKit Go.Shelf Go.Proofs.YthbnnlhkcaomlaaDoorW.PrintWords Go.Proofs.YthbnnlhkcaomlaaDoor.Gl

theorem argv_fin {E' : Nat → Prop} {w W1 W2 w1 w3 F : World} {b1 cc N1 N2 : Nat} {l : List B} (hC : Kd.string.C W2 (some ⟨b1, 0, none⟩) l.length l ∧ Ty W2 b1 9) (hb : W1.heap.size ≤ b1 ∧ ¬ E' b1 ∧ Ty w1 b1 9) (hw : w.heap.size ≤ W1.heap.size) (h3 : Below W2.heap.size W2 w3) (n1 : N1 < b1) (n2 : N2 < b1) (hc : l.length ≤ cc)
    (hF : Mod (fun k => k = N1 ∨ k = N2) w3 F) : ArgV E' w F (.slice (some ⟨b1, 0, none⟩) l.length cc) l := by
  refine ⟨some ⟨b1, 0, none⟩, l.length, cc, rfl, rfl, hc, str_C (Kd.C_below hC.1 h3) hF ?_, ?_⟩
  · rintro ad h _
    cases h
    rintro (h | h)
    · simp at h; omega
    · simp at h; omega
  · intro ad h
    cases h
    refine ⟨Nat.le_trans hw hb.1, hb.2.1, (hC.2.mod (S := fun _ => False) (Mod.below h3) (fun e => e)).mod hF ?_⟩
    rintro (h | h) <;> omega

set_option linter.unusedSimpArgs false in
set_option maxHeartbeats 6400000 in
set_option maxRecDepth 100000 in
theorem ask_all64 (S E : Nat → Prop) (f g : Nat) (deep : Int) (y : FT) (e e' : EnvT) (k : Int) (op : B) (q : Bool) (pw : List PartT) (pb : Option (B × Bool)) (A : Option Addr) (n c : Nat) (ba : Option Addr) (x : ParamT) (w : World) (HF : FldAt S w f g deep y) (HE : EnvAt E w g e)
    (h : askP e (.mk k ⟨#[64]⟩ op q pw pb) = some (x, e')) :
    Calls Tryd.prog 25 #[.pointer (some ⟨f, 0, none⟩), partV (.mk k ⟨#[64]⟩ op q pw pb) (.slice A n c) (.pointer ba)] w fun en w' => AskPost E w g x (.slice A n c) (.pointer ba) e' en w' := by
  unfold partV
  simp only [PartT.kind, PartT.text, PartT.op, PartT.quoted]
  obtain ⟨ov, lv, vs, hf⟩ := HF
  obtain ⟨og, oc, rfl⟩ := fld_form hf
  generalize hvn : vs.length = m at hf
  obtain ⟨-, c0, c1, c2, f1, cl, fl, ft, ot, ne⟩ := fld_cells hf
  obtain ⟨v, st, l, hv, hx⟩ := askP_some h
  have hv : ((argsE e).bind fun e' => if (joinA e.args).size ≤ bigT then some ((joinA e.args, decide (0 < e.args.length), e.args), e') else none) = some ((v, st, l), e') := hv
  rw [Option.bind_eq_some_iff] at hv
  obtain ⟨e1, hA, hv⟩ := hv
  split at hv
  rotate_left
  · cases hv
  rename_i hjs
  have HJ := Lib.hid hjs
  clear hjs
  cases hv
  have HA := Lib.hid hA
  have HX := Lib.hid hx
  clear hA hx h
  have HEE := Lib.hid HE
  have k0 : ∀ o1 o2 o3, (((w.alloc o1).alloc o2).alloc o3).cell? ⟨f, 0, none⟩ = some (.iface 28 (.pointer (some ⟨g, 0, none⟩))) := fun o1 o2 o3 => pw_cell_below (below_3 w o1 o2 o3) c0
  clear HE hf hvn c1 c2 f1 cl fl ot ne
  obtain ⟨hc, hhc⟩ : ∃ hc, hasColon op = hc := ⟨_, rfl⟩
  have HH := Lib.hid hhc
  have HC : Hid (Lib.hasPrefix op.data.toList (⟨#[58]⟩ : B).data.toList = hc) := hhc
  have HT := Lib.hid HEE.out.tab
  have HG := Lib.hid HEE.out.facts
  clear hhc
  obtain ⟨V, hV⟩ : ∃ V, joinA e.args = V := ⟨_, rfl⟩
  have HV := Lib.hid hV
  clear hV
  have i1 := inv_args (some ⟨g, 0, none⟩)
  have i2 := inv_get (some ⟨g, 0, none⟩)
  have i3 := inv_status (some ⟨g, 0, none⟩)
  cases hc
  all_goals
    go_enter Tryd.func25, Tryd.ntmps25
    go_wp2_with (first
      | (go_at_call 35; refine (all_walk ⟨#[64]⟩ _).mono ?_; rintro en wa ⟨rfl, rfl⟩)
      | (go_at_call 100; refine (args_walk E g e _ _ (EnvAt.below HEE.out (below_3 _ _ _ _)) HA.out).mono ?_; rintro en w1 ⟨b1, _, cc1, E', rfl, rfl, hc1, hC1, hb1, hE1, hm1, hs1⟩
         obtain ⟨y1, y3, y2⟩ := three_new w _ _ _
         have HO1 := Lib.hid (keep_obj HEE.out hm1 (Nat.le_refl _) y1); have HO2 := Lib.hid (keep_obj HEE.out hm1 (by omega) y2); have HO3 := Lib.hid (keep_obj HEE.out hm1 (by omega) y3)
         have HQ := Lib.hid (And.intro hE1 (And.intro hm1 hs1)); have HN := Lib.hid (And.intro hC1 hb1)
         obtain ⟨p1, p2, p3⟩ := box_cells HO1.out; obtain ⟨q1, q2, q3⟩ := box_cells HO2.out; obtain ⟨r1, r2, r3⟩ := box_cells HO3.out
         clear hC1 hb1 hE1 hm1 hs1 y1 y2 y3 k0))
    have HS1 : Hid ((w1.setCell ⟨w.heap.size + 1 + 1, 8, none⟩ (.slice (some ⟨b1, 0, none⟩) e.args.length cc1)).heap[w.heap.size + 1 + 1]? = some (.cells #[.int .i64 k, .string ⟨#[64]⟩, .string op, .bool q, .slice A n c, .pointer ba, .string ⟨#[]⟩, .bool false, .slice (some ⟨b1, 0, none⟩) e.args.length cc1, .bool false] 75 (0, 0))) := heap_same_to HO2.out (by simp)
    have HS2 : Hid ((w1.setCell ⟨w.heap.size + 1 + 1, 8, none⟩ (.slice (some ⟨b1, 0, none⟩) e.args.length cc1)).heap[w.heap.size]? = _) := heap_other HO1.out (by omega)
    have HS3 : Hid ((w1.setCell ⟨w.heap.size + 1 + 1, 8, none⟩ (.slice (some ⟨b1, 0, none⟩) e.args.length cc1)).heap[w.heap.size + 1]? = _) := heap_other HO3.out (by omega)
    have HM1 : Hid (Mod (fun k => k = w.heap.size + 1 ∨ k = w.heap.size + 1 + 1) w1 (w1.setCell ⟨w.heap.size + 1 + 1, 8, none⟩ (.slice (some ⟨b1, 0, none⟩) e.args.length cc1))) := set_in (Mod.refl _ _) (.inr rfl)
    have hb3 : w.heap.size + 1 + 1 < b1 := by have := HN.out.2.1; simp at this; omega
    have HC1 : Hid (Kd.string.C (w1.setCell ⟨w.heap.size + 1 + 1, 8, none⟩ (.slice (some ⟨b1, 0, none⟩) e.args.length cc1)) (some ⟨b1, 0, none⟩) e.args.length e.args ∧ Ty (w1.setCell ⟨w.heap.size + 1 + 1, 8, none⟩ (.slice (some ⟨b1, 0, none⟩) e.args.length cc1)) b1 9) :=
      ⟨str_C HN.out.1 HM1.out (by rintro ad h1 _ h2; cases h1; simp at h2; omega), HN.out.2.2.2.mod HM1.out (by rintro h2; omega)⟩
    generalize w1.setCell ⟨w.heap.size + 1 + 1, 8, none⟩ (.slice (some ⟨b1, 0, none⟩) e.args.length cc1) = W2 at HS1 HS2 HS3 HM1 HC1 ⊢
    clear p1 p2 p3 q1 q2 q3 r1 r2 r3
    obtain ⟨q1, q2, q3⟩ := box_cells HS1.out
    go_region_with (go_at_call 36; refine (join_call e.args b1 cc1 W2.drew (Kd.C_below HC1.out.1 (Below.refl _ _).drew) HC1.out.2.lt hc1 HG.out.1 HJ.out).mono ?_; rintro en w3 ⟨rfl, hb3⟩; rw [HV.out]; have HB3 := Lib.hid hb3; clear hb3; obtain ⟨s1, s2, s3⟩ := box_cells (below_obj HB3.out (show W2.drew.heap[w.heap.size + 1 + 1]? = _ from HS1.out)); obtain ⟨t1, t2, t3⟩ := box_cells (below_obj HB3.out (show W2.drew.heap[w.heap.size]? = _ from HS2.out)); obtain ⟨r1, r2, r3⟩ := box_cells (below_obj HB3.out (show W2.drew.heap[w.heap.size + 1]? = _ from HS3.out)))
    all_goals
      go_wp2_with (go_at_call 37; refine (Tryd.strings_HasPrefix _ _ _).mono ?_; rintro en w4 ⟨rfl, rfl⟩; rw [HC.out])
    all_goals
      refine ask_end2 (N := w.heap.size + 1) ?hb rfl rfl ?hp
      case hb =>
        (with_reducible repeat (refine heap_other ?_ ?_; (rotate_left; omega)))
        exact below_obj HB3.out (show W2.drew.heap[w.heap.size + 1]? = _ from HS3.out)
      case hp =>
        refine ⟨.slice (some ⟨b1, 0, none⟩) e.args.length cc1, E', ?_, ?_, ask_fin HEE.out (below_3 w _ _ _) HQ.out.1 HQ.out.2.1 HQ.out.2.2 (Below.refl _ _) (N1 := w.heap.size + 1) (N2 := w.heap.size + 1 + 1) (by omega) (by omega) (blk_ty HO3.out) (blk_ty HO2.out) (by simp) (by simp) ?_⟩
        · rw [HX.out]
          simp only [paramV, PartT.kind, PartT.text, PartT.op, PartT.quoted]
          rw [HV.out, HH.out]
          first
            | (have h0 : decide (0 < e.args.length) = true := decide_eq_true (by omega)
               rw [h0]
               simp [isEmpty_eq]
               done)
            | (have h0 : decide (0 < e.args.length) = false := decide_eq_false (by first | omega | (simp; assumption) | (intro h; simp_all))
               rw [h0]
               simp
               done)
        · rw [HX.out]
          refine argv_fin HC1.out HN.out.2 (by simp; omega) ((Below.refl _ _).drew.trans HB3.out) (N1 := w.heap.size + 1) (N2 := w.heap.size + 1 + 1) (by omega) (by omega) hc1 ?_
          refine Mod.trans (S' := fun k => k = w.heap.size + 1 ∨ k = w.heap.size + 1 + 1) ?_ (ten_mod (.inl rfl)) (fun _ _ h => h)
          (with_reducible repeat refine set_in ?_ (Or.inr rfl))
          exact Mod.refl _ _
        · refine Mod.trans (S' := fun k => k = w.heap.size + 1 ∨ k = w.heap.size + 1 + 1) ?_ (ten_mod (.inl rfl)) (fun _ _ h => h)
          (with_reducible repeat refine set_in ?_ (Or.inr rfl))
          exact HM1.out.trans (S' := fun _ => False) (Mod.below ((Below.refl _ _).drew.trans HB3.out)) (fun _ _ e => e.elim)

end Go.Proofs.YthbnnlhkcaomlaaDoor.Ex
