/- The walks of lit, quoted and subst. -/
import Derived.Test.YthbnnlhkcaomlaaDoorExWordM
namespace Go.Proofs.YthbnnlhkcaomlaaDoor.Ex
open Go.RowKit Go.Shelf Go.Proofs.YthbnnlhkcaomlaaDoorW.PrintWords Go.Proofs.YthbnnlhkcaomlaaDoor.Gl

theorem fld_zero {S : Nat → Prop} {w : World} {f g : Nat} {deep : Int} {y : FT} (h : FldAt S w f g deep y) : w.cell? ⟨f, 0, none⟩ = some (.iface 28 (.pointer (some ⟨g, 0, none⟩))) := by
  obtain ⟨_, _, _, h⟩ := h
  exact (blk_cell h.hb 0).trans rfl
theorem fld_two {S : Nat → Prop} {w : World} {f g : Nat} {deep : Int} {y : FT} (h : FldAt S w f g deep y) : w.cell? ⟨f, 2, none⟩ = some (.int .i64 deep) := by
  obtain ⟨_, _, _, h⟩ := h
  exact (blk_cell h.hb 2).trans rfl
theorem env_notF {S E : Nat → Prop} {w : World} {f g : Nat} {deep : Int} {y : FT} {e : EnvT} (h : FldAt S w f g deep y) (HE : EnvAt E w g e) : ¬ E w.heap.size ∧ ¬ E f := by
  obtain ⟨_, _, _, hf⟩ := h
  obtain ⟨lv', A', c', sv', he⟩ := HE
  refine ⟨fun hk => ?_, fun hk => ?_⟩
  · rcases he.ty _ hk with h2 | h2 | h2 <;> exact Nat.lt_irrefl _ h2.lt
  · have ht : Ty w f 69 := ⟨_, _, hf.hb⟩
    rcases he.ty _ hk with h2 | h2 | h2 <;> exact (ht.ne h2 (by decide)) rfl

attribute [local go_sem] inv_subst
def litP (deep : Int) (p : PartT) (y : FT) (e : EnvT) : Option Res := (putP y ⟨p.text, false, decide (1 < deep)⟩).map fun y' => (0, y', e)
def quotedP (p : PartT) (y : FT) (e : EnvT) : Option Res := (putP y ⟨p.text, true, false⟩).map fun y' => (0, y', e)
def substP (p : PartT) (y : FT) (e : EnvT) : Option Res := (substE e p.body).bind fun r => (putP y (runP p r.1.1)).map fun y' => (r.1.2, y', r.2)

set_option maxHeartbeats 1600000 in
set_option maxRecDepth 100000 in
theorem quoted_m (S E : Nat → Prop) (f g : Nat) (deep : Int) (p : PartT) (A : Option Addr) (n c : Nat) (ba : Option Addr) (y y' : FT) (e e' : EnvT) (r : Int) (w : World) (H : FldAt S w f g deep y) (HE : EnvAt E w g e) (h : quotedP p y e = some (r, y', e')) :
    Calls Tryd.prog 20 #[.pointer (some ⟨f, 0, none⟩), partV p (.slice A n c) (.pointer ba)] w fun en w' => en = .returned (.int .i64 r) ∧ MPost S E w f g deep y' e' w' := by
  unfold quotedP at h
  rw [Option.map_eq_some_iff] at h
  obtain ⟨z, hz, he⟩ := h
  cases he
  have HH := Lib.hid (And.intro H HE)
  have HJ := Lib.hid hz
  clear hz H HE
  unfold partV
  go_enter Tryd.func20, Tryd.ntmps20
  go_wp2_with (go_at_call 24; refine (put_walk S f g deep y y' ⟨p.text, true, false⟩ _ (FldAt.below HH.out.1 (below_a _ _)) HJ.out).mono ?_; rintro en w1 ⟨rfl, h1⟩; have H1 := Lib.hid h1; clear h1)
  go_ret
  exact ⟨rfl, .before (below_a _ _) (.of_fld (FldAt.below HH.out.1 (below_a _ _)) (EnvAt.below HH.out.2 (below_a _ _)) H1.out)⟩

set_option maxHeartbeats 1600000 in
set_option maxRecDepth 100000 in
theorem lit_m (S E : Nat → Prop) (f g : Nat) (deep : Int) (p : PartT) (A : Option Addr) (n c : Nat) (ba : Option Addr) (y y' : FT) (e e' : EnvT) (r : Int) (w : World) (H : FldAt S w f g deep y) (HE : EnvAt E w g e) (h : litP deep p y e = some (r, y', e')) :
    Calls Tryd.prog 19 #[.pointer (some ⟨f, 0, none⟩), partV p (.slice A n c) (.pointer ba)] w fun en w' => en = .returned (.int .i64 r) ∧ MPost S E w f g deep y' e' w' := by
  unfold litP at h
  rw [Option.map_eq_some_iff] at h
  obtain ⟨z, hz, he⟩ := h
  cases he
  have HH := Lib.hid (And.intro H HE)
  have HJ := Lib.hid hz
  have c2' : ∀ o, (w.alloc o).cell? ⟨f, 2, none⟩ = some (.int .i64 deep) := fun o => fld_two (FldAt.below H (below_a _ _))
  have hb : ∀ o, Below w.heap.size w (w.alloc o) := fun o => below_a w o
  clear hz H HE
  unfold partV
  go_enter Tryd.func19, Tryd.ntmps19
  go_wp2
  generalize hW : w.alloc _ = W1
  have d2 := c2' (.cells #[.int .i64 p.kind, .string p.text, .string p.op, .bool p.quoted, .slice A n c, .pointer ba] 47)
  have HB := Lib.hid (hb (.cells #[.int .i64 p.kind, .string p.text, .string p.op, .bool p.quoted, .slice A n c, .pointer ba] 47))
  have d4 : W1.cell? ⟨w.heap.size, 1, none⟩ = some (.string p.text) := by rw [← hW, World.cell?_alloc_new]; rfl
  clear c2' hb
  rw [hW] at d2 HB
  clear hW
  go_region_held3 (fun w' => w'.cell? ⟨w.heap.size, 1, none⟩ = some (.string p.text) ∧ w'.cell? ⟨f, 2, none⟩ = some (.int .i64 deep)) (go_keep) ((go_at_call 24; refine (put_walk S f g deep y y' ⟨p.text, false, decide (1 < deep)⟩ _ (FldAt.below HH.out.1 HB.out.drew) HJ.out).mono ?_; rintro en w1 ⟨rfl, S', h1, h2, h3⟩; have q4 := Mod.cell h2 (show W1.drew.cell? _ = _ from d4) (fld_lt HH.out.1 (Nat.le_refl _)); have q2 := fld_two h1; have H1 := Lib.hid (show FldPost S W1.drew f g deep y' w1 from ⟨S', h1, h2, h3⟩); clear h1 h2 h3))
  go_wp2
  go_ret
  exact ⟨rfl, .before HB.out.drew (.of_fld (FldAt.below HH.out.1 HB.out.drew) (EnvAt.below HH.out.2 HB.out.drew) H1.out)⟩

set_option maxHeartbeats 1600000 in
set_option maxRecDepth 100000 in
theorem subst_m (S E P : Nat → Prop) (f g : Nat) (deep : Int) (p : PartT) (A : Option Addr) (n c : Nat) (ba : Option Addr) (y y' : FT) (e e' : EnvT) (r : Int) (w : World) (H : FldAt S w f g deep y) (HE : EnvAt E w g e) (hP : ∀ k, P k → ¬ E k) (hbd : BodyAt P w p.body (.pointer ba)) (h : substP p y e = some (r, y', e')) :
    Calls Tryd.prog 22 #[.pointer (some ⟨f, 0, none⟩), partV p (.slice A n c) (.pointer ba)] w fun en w' => en = .returned (.int .i64 r) ∧ MPost S E w f g deep y' e' w' := by
  unfold substP at h
  rw [Option.bind_eq_some_iff] at h
  obtain ⟨⟨r1, e1⟩, hs, h⟩ := h
  rw [Option.map_eq_some_iff] at h
  obtain ⟨z, hz, he⟩ := h
  cases he
  have HH := Lib.hid (And.intro H HE)
  have HBD := Lib.hid (And.intro hP (And.intro hbd hs))
  have HJ := Lib.hid hz
  have HNE := Lib.hid (env_notF H HE)
  have c0' : ∀ o, (w.alloc o).cell? ⟨f, 0, none⟩ = some (.iface 28 (.pointer (some ⟨g, 0, none⟩))) := fun o => fld_zero (FldAt.below H (below_a _ _))
  have hb : ∀ o, Below w.heap.size w (w.alloc o) := fun o => below_a w o
  clear hz hs hP hbd H HE
  unfold partV
  go_enter Tryd.func22, Tryd.ntmps22
  go_wp2
  generalize hW : w.alloc _ = W1
  have d0 := c0' (.cells #[.int .i64 p.kind, .string p.text, .string p.op, .bool p.quoted, .slice A n c, .pointer ba] 47)
  have HB := Lib.hid (hb (.cells #[.int .i64 p.kind, .string p.text, .string p.op, .bool p.quoted, .slice A n c, .pointer ba] 47))
  have ho : W1.heap[w.heap.size]? = some (.cells #[.int .i64 p.kind, .string p.text, .string p.op, .bool p.quoted, .slice A n c, .pointer ba] 47) := by rw [← hW]; exact heap_alloc_new w _
  have d5 : W1.cell? ⟨w.heap.size, 5, none⟩ = some (.pointer ba) := (blk_cell ho 5).trans rfl
  clear c0' hb
  rw [hW] at d0 HB
  clear hW
  have HO := Lib.hid ho
  clear ho
  go_region_held3 (fun w' => w'.cell? ⟨w.heap.size, 5, none⟩ = some (.pointer ba) ∧ w'.cell? ⟨f, 0, none⟩ = some (.iface 28 (.pointer (some ⟨g, 0, none⟩)))) (go_keep) ((go_at_call 104; refine (subst_walk E g e e1 p.body (.pointer ba) r1 _ (EnvAt.below HH.out.2 HB.out.drew) HBD.out.1 (BodyAt.mod HBD.out.2.1 (S := fun _ => False) (Mod.below HB.out.drew) (fun _ _ e => e)) HBD.out.2.2).mono ?_; rintro en w1 ⟨rfl, E', h1, h2, h3⟩; have q4 := Mod.cell h2 (show W1.drew.cell? _ = _ from d5) HNE.out.1; have q2 := Mod.cell h2 (show W1.drew.cell? _ = _ from d0) HNE.out.2; have HO1 := Lib.hid (Mod.obj h2 (show W1.drew.heap[w.heap.size]? = _ from HO.out) HNE.out.1); have H1 := Lib.hid (And.intro h1 (And.intro h2 h3)); clear h1 h2 h3))
  obtain ⟨b0, b1, b2, b3, b4, b5⟩ : _ ∧ _ ∧ _ ∧ _ ∧ _ ∧ _ := ⟨blk_cell HO1.out 0, blk_cell HO1.out 1, blk_cell HO1.out 2, blk_cell HO1.out 3, blk_cell HO1.out 4, blk_cell HO1.out 5⟩
  go_wp2_with (first
    | (go_at_call 33; refine (run_walk p A n c ba r1.1 _).mono ?_; rintro en w2 ⟨rfl, h1⟩; have H2 := Lib.hid h1; clear h1)
    | (go_at_call 24; refine (put_walk S f g deep y y' (runP p r1.1) _ (FldAt.below (FldAt.env_of (FldAt.below HH.out.1 HB.out.drew) (EnvAt.below HH.out.2 HB.out.drew) H1.out.2.1) H2.out) HJ.out).mono ?_; rintro en w3 ⟨rfl, h1⟩; have H3 := Lib.hid h1; clear h1))
  go_ret
  exact ⟨rfl, .before HB.out.drew (.after_env H1.out.2.1 H1.out.2.2 (.before H2.out (.of_fld (FldAt.below (FldAt.env_of (FldAt.below HH.out.1 HB.out.drew) (EnvAt.below HH.out.2 HB.out.drew) H1.out.2.1) H2.out) (EnvAt.below H1.out.1 H2.out) H3.out)))⟩

end Go.Proofs.YthbnnlhkcaomlaaDoor.Ex
