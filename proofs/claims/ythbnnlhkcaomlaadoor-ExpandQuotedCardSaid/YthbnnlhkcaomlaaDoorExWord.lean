/- A word in memory; what is asked of expand for the words inside; the walks of word, other, orElse, instead. -/
import Derived.Test.YthbnnlhkcaomlaaDoorExPlainM
namespace Go.Proofs.YthbnnlhkcaomlaaDoor.Ex
open Go.RowKit Go.Shelf Go.Proofs.YthbnnlhkcaomlaaDoorW.PrintWords Go.Proofs.YthbnnlhkcaomlaaDoor.Gl

/-- A part's cells, so many levels deep; P: the blocks that are read. -/
def PartAt : Nat → (Nat → Prop) → World → PartT → List Value → Prop
  | 0, _, _, _, _ => False
  | d + 1, P, w, p, cs => ∃ A n c ba, cs = [.int .i64 p.kind, .string p.text, .string p.op, .bool p.quoted, .slice A n c, .pointer ba] ∧ n ≤ c ∧
      (p.word.length = n ∧ n ≤ 9223372036854775807 ∧ (0 < n → ∃ ad, A = some ad ∧ P ad.block ∧ ∀ (j : Nat) q, p.word[j]? = some q → ∃ qs, qs.length = 6 ∧ PartAt d P w q qs ∧ ∀ i u, qs[i]? = some u → w.cell? (ad.add (j * 6 + i)) = some u)) ∧
      BodyAt P w p.body (.pointer ba)
def WordAt (d : Nat) (P : Nat → Prop) (w : World) (A : Option Addr) (n : Nat) (ps : List PartT) : Prop :=
  ps.length = n ∧ n ≤ 9223372036854775807 ∧ (0 < n → ∃ ad, A = some ad ∧ P ad.block ∧ ∀ (j : Nat) q, ps[j]? = some q → ∃ qs, qs.length = 6 ∧ PartAt d P w q qs ∧ ∀ i u, qs[i]? = some u → w.cell? (ad.add (j * 6 + i)) = some u)

theorem BodyAt.mod {P S : Nat → Prop} {w w' : World} {b : Option (B × Bool)} {v : Value} (h : BodyAt P w b v) (hm : Mod S w w') (hP : ∀ k, P k → ¬ S k) : BodyAt P w' b v := by
  rcases b with _ | ⟨n, no⟩
  · exact h
  · obtain ⟨ad, e, h1, h2, h3⟩ := h
    exact ⟨ad, e, hm.cell h1 (hP _ h3), hm.cell h2 (hP _ h3), h3⟩
theorem PartAt.mod {P S : Nat → Prop} {w w' : World} (hm : Mod S w w') (hP : ∀ k, P k → ¬ S k) : ∀ (d : Nat) (p : PartT) (cs : List Value), PartAt d P w p cs → PartAt d P w' p cs
  | 0, _, _, h => h.elim
  | d + 1, p, cs, ⟨A, n, c, ba, e, hc, ⟨h1, h2, h3⟩, hb⟩ => ⟨A, n, c, ba, e, hc, ⟨h1, h2, fun hn => by
      obtain ⟨ad, ea, hp, hq⟩ := h3 hn
      refine ⟨ad, ea, hp, fun j q hj => ?_⟩
      obtain ⟨qs, hl, hpa, hcell⟩ := hq j q hj
      exact ⟨qs, hl, PartAt.mod hm hP d q qs hpa, fun i u hu => hm.cell (hcell i u hu) (by rw [add_block]; exact hP _ hp)⟩⟩, hb.mod hm hP⟩
theorem WordAt.mod {d : Nat} {P S : Nat → Prop} {w w' : World} {A : Option Addr} {n : Nat} {ps : List PartT} (h : WordAt d P w A n ps) (hm : Mod S w w') (hP : ∀ k, P k → ¬ S k) : WordAt d P w' A n ps :=
  ⟨h.1, h.2.1, fun hn => by
    obtain ⟨ad, ea, hp, hq⟩ := h.2.2 hn
    refine ⟨ad, ea, hp, fun j q hj => ?_⟩
    obtain ⟨qs, hl, hpa, hcell⟩ := hq j q hj
    exact ⟨qs, hl, PartAt.mod hm hP d q qs hpa, fun i u hu => hm.cell (hcell i u hu) (by rw [add_block]; exact hP _ hp)⟩⟩
theorem WordAt.below {d : Nat} {P : Nat → Prop} {w w' : World} {A : Option Addr} {n : Nat} {ps : List PartT} (h : WordAt d P w A n ps) (hb : Below w.heap.size w w') : WordAt d P w' A n ps := h.mod (S := fun _ => False) (Mod.below hb) (fun _ _ e => e)

/-- Only the environment's blocks have been written. -/
theorem FldAt.env_of {S E : Nat → Prop} {w w' : World} {f g : Nat} {deep : Int} {x : FT} {e : EnvT} (h : FldAt S w f g deep x) (he : EnvAt E w g e) (hm : Mod E w w') : FldAt S w' f g deep x := by
  obtain ⟨lv, A, c, sv, he⟩ := he
  exact h.env hm he.ty
/-- Behind expand: rows of its own, the error, the environment. -/
def WPost (E : Nat → Prop) (w : World) (g : Nat) (a : Ans) (en : Ending) (w' : World) : Prop :=
  ∃ A1 n1 c1 E', en = .returned (.tuple #[.slice A1 n1 c1, .int .i64 a.2.1]) ∧ RowsAt (fun k => w.heap.size ≤ k ∧ k < w'.heap.size ∧ ¬ E' k) w' A1 n1 a.1 ∧ n1 ≤ c1 ∧ EnvAt E' w' g a.2.2 ∧ Mod E w w' ∧ ∀ k, k < w.heap.size → E' k → E k
theorem WPost.before {E : Nat → Prop} {w w1 w' : World} {g : Nat} {a : Ans} {en : Ending} (hb : Below w.heap.size w w1) (h : WPost E w1 g a en w') : WPost E w g a en w' := by
  obtain ⟨A1, n1, c1, E', h1, h2, h3, h4, h5, h6⟩ := h
  exact ⟨A1, n1, c1, E', h1, h2.imp (fun k hk => ⟨Nat.le_trans hb.size hk.1, hk.2⟩), h3, h4, (Mod.below hb).trans h5 (fun _ _ h => h), fun k hk => h6 k (Nat.lt_of_lt_of_le hk hb.size)⟩
/-- What is asked of expand, so deep, for words of so many levels. -/
def ExpandOk (deep : Int) (d : Nat) (W : List PartT → EnvT → Option Ans) : Prop :=
  ∀ (E P : Nat → Prop) (g : Nat) (e : EnvT) (word : List PartT) (a : Ans) (A : Option Addr) (n c : Nat) (w : World), EnvAt E w g e → WordAt d P w A n word → n ≤ c → (∀ k, P k → ¬ E k) → W word e = some a →
    Calls Tryd.prog 18 #[.slice A n c, .iface 28 (.pointer (some ⟨g, 0, none⟩)), .int .i64 deep] w fun en w' => WPost E w g a en w'

set_option maxHeartbeats 1600000 in
set_option maxRecDepth 100000 in
theorem word_m {W : List PartT → EnvT → Option Ans} {deep : Int} {d : Nat} (hX : ExpandOk (deep + 1) d W) (hd0 : 0 ≤ deep) (hd1 : deep ≤ 30) (S E P : Nat → Prop) (f g : Nat) (p : PartT) (A : Option Addr) (n c : Nat) (ba : Option Addr) (y : FT) (e : EnvT) (a : Ans) (w : World) (H : FldAt S w f g deep y) (HE : EnvAt E w g e)
    (hw : WordAt d P w A n p.word) (hc : n ≤ c) (hP : ∀ k, P k → ¬ E k) (h : W p.word e = some a) :
    Calls Tryd.prog 41 #[.pointer (some ⟨f, 0, none⟩), partV p (.slice A n c) (.pointer ba)] w fun en w' => WPost E w g a en w' := by
  obtain ⟨ov, lv, vs, hf⟩ := H
  obtain ⟨og, oc, rfl⟩ := fld_form hf
  generalize hvn : vs.length = m at hf
  obtain ⟨-, c0, c1, c2, f1, cl, fl, ft, ot, ne⟩ := fld_cells hf
  have HX := Lib.hid hX
  have HW := Lib.hid (And.intro HE (And.intro hw (And.intro hP h)))
  have c0' : ∀ o, (w.alloc o).cell? ⟨f, 0, none⟩ = some (.iface 28 (.pointer (some ⟨g, 0, none⟩))) := fun o => (World.cell?_alloc_lt _ _ _ ft).trans c0
  have c2' : ∀ o, (w.alloc o).cell? ⟨f, 2, none⟩ = some (.int .i64 deep) := fun o => (World.cell?_alloc_lt _ _ _ ft).trans c2
  have hdw : IntKind.i64.wrap (deep + 1) = deep + 1 := IntWalk.i64_in _ (by omega)
  have HNE : Hid (¬ E w.heap.size ∧ ¬ E f) := by
    obtain ⟨lv', A', c', sv', he⟩ := HE
    refine ⟨fun hk => ?_, fun hk => ?_⟩
    · rcases he.ty _ hk with h2 | h2 | h2 <;> exact Nat.lt_irrefl _ h2.lt
    · have ht : Ty w f 69 := ⟨_, _, hf.hb⟩
      rcases he.ty _ hk with h2 | h2 | h2 <;> exact (ht.ne h2 (by decide)) rfl
  have hb : ∀ o, Below w.heap.size w (w.alloc o) := fun o => below_a w o
  unfold partV
  clear hX HE hw hP h hf hvn c1 f1 cl fl ot ne ft c0 c2
  go_enter Tryd.func41, Tryd.ntmps41
  go_wp2
  generalize hW : w.alloc _ = W1
  have d0 := c0' (.cells #[.int .i64 p.kind, .string p.text, .string p.op, .bool p.quoted, .slice A n c, .pointer ba] 47)
  have d2 := c2' (.cells #[.int .i64 p.kind, .string p.text, .string p.op, .bool p.quoted, .slice A n c, .pointer ba] 47)
  have HB := Lib.hid (hb (.cells #[.int .i64 p.kind, .string p.text, .string p.op, .bool p.quoted, .slice A n c, .pointer ba] 47))
  have d4 : W1.cell? ⟨w.heap.size, 4, none⟩ = some (.slice A n c) := by rw [← hW, World.cell?_alloc_new]; rfl
  clear c0' c2' hb
  rw [hW] at d0 d2 HB
  clear hW
  go_region_held3 (fun w' => w'.cell? ⟨w.heap.size, 4, none⟩ = some (.slice A n c) ∧ w'.cell? ⟨f, 0, none⟩ = some (.iface 28 (.pointer (some ⟨g, 0, none⟩))) ∧ w'.cell? ⟨f, 2, none⟩ = some (.int .i64 deep)) (go_keep) ((go_at_call 18; refine (HX.out E P g e p.word a A n c _ (EnvAt.below HW.out.1 HB.out.drew) (WordAt.below HW.out.2.1 HB.out.drew) hc HW.out.2.2.1 HW.out.2.2.2).mono ?_; rintro en w1 ⟨A1, n1, c1, E', rfl, k2, k3, k4, k5, k6⟩; have q4 := Mod.cell k5 (show W1.drew.cell? _ = _ from d4) HNE.out.1; have q0 := Mod.cell k5 (show W1.drew.cell? _ = _ from d0) HNE.out.2; have q2 := Mod.cell k5 (show W1.drew.cell? _ = _ from d2) HNE.out.2; have HK := Lib.hid (WPost.before HB.out.drew ⟨A1, n1, c1, E', rfl, k2, k3, k4, k5, k6⟩); clear k2 k3 k4 k5 k6))
  go_wp2
  go_ret2
  exact HK.out

end Go.Proofs.YthbnnlhkcaomlaaDoor.Ex
