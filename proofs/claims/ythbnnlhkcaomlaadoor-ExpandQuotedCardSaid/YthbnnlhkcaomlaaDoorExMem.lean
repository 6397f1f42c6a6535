/- Memory: what may have changed, by blocks; what a row of elements and an owned row need to stay. -/
import Derived.Test.YthbnnlhkcaomlaaDoorWWords
import Derived.Lib.Hide
namespace Go.Proofs.YthbnnlhkcaomlaaDoor.Ex
open Go.RowKit Go.Proofs.YthbnnlhkcaomlaaDoorW.PrintWords

/-- But for blocks of S nothing that was there has changed. -/
structure Mod (S : Nat → Prop) (w w' : World) : Prop where
  os : w'.os = w.os
  tape : w'.tape = w.tape
  output : w'.output = w.output
  size : w.heap.size ≤ w'.heap.size
  block : ∀ k, k < w.heap.size → ¬ S k → w'.heap[k]? = w.heap[k]?

section
variable {S S' : Nat → Prop} {a w w' : World}
theorem Mod.refl (S : Nat → Prop) (w : World) : Mod S w w := ⟨rfl, rfl, rfl, Nat.le_refl _, fun _ _ _ => rfl⟩
theorem Mod.trans (h : Mod S a w) (k : Mod S' w w') (hS : ∀ i, i < a.heap.size → S' i → S i) : Mod S a w' :=
  ⟨k.os.trans h.os, k.tape.trans h.tape, k.output.trans h.output, Nat.le_trans h.size k.size, fun i hi hn => (k.block i (Nat.lt_of_lt_of_le hi h.size) (fun e => hn (hS i hi e))).trans (h.block i hi hn)⟩
theorem Mod.mono (h : Mod S w w') (hS : ∀ i, i < w.heap.size → S i → S' i) : Mod S' w w' := ⟨h.os, h.tape, h.output, h.size, fun i hi hn => h.block i hi (fun e => hn (hS i hi e))⟩
theorem Mod.below (h : Below w.heap.size w w') : Mod S w w' := ⟨h.os, h.tape, h.output, h.size, fun i hi _ => h.block i hi⟩
theorem Mod.toBelow (h : Mod S w w') {B : Nat} (hB : B ≤ w.heap.size) (hS : ∀ i, i < B → ¬ S i) : Below B w w' := ⟨h.os, h.tape, h.output, h.size, fun i hi => h.block i (Nat.lt_of_lt_of_le hi hB) (hS i hi)⟩
theorem Mod.drew (h : Mod S a w) : Mod S a w.drew := ⟨h.os, h.tape, h.output, h.size, h.block⟩
theorem Mod.drewN (h : Mod S a w) (n : Nat) : Mod S a (w.drewN n) := ⟨h.os, h.tape, h.output, h.size, h.block⟩
theorem Mod.alloc (h : Mod S a w) (o : Obj) : Mod S a (w.alloc o) :=
  h.trans (S' := fun _ => False) (Mod.below ((Below.refl _ _).alloc (Nat.le_refl _) o)) (fun _ _ e => e.elim)
theorem Mod.setCell (h : Mod S a w) {p : Addr} (hp : p.block < a.heap.size → S p.block) (u : Value) : Mod S a (w.setCell p u) :=
  h.trans (S' := fun k => k = p.block) ⟨rfl, rfl, rfl, by simp [World.setCell], fun k _ hk => Below.heap_setCell _ _ _ _ hk⟩ (fun i hi e => by subst e; exact hp hi)
theorem Mod.grown {row : Option Nat} (h : Mod S a w) (hg : w.grownBy w' row) (hr : ∀ k, row = some k → k < a.heap.size → S k) : Mod S a w' :=
  h.trans (S' := fun k => row = some k) ⟨hg.os, hg.tape, hg.output, hg.size, fun k hk hn => hg.block k hk (fun e => hn e.symm)⟩ (fun i hi e => hr i e hi)
theorem Mod.cell (h : Mod S w w') {p : Addr} {v : Value} (hc : w.cell? p = some v) (hp : ¬ S p.block) : w'.cell? p = some v :=
  (World.cell?_of_block (h.block p.block (World.block_lt_of_cell? w p hc) hp)).trans hc
theorem Mod.obj (h : Mod S w w') {k : Nat} {o : Obj} (hk : w.heap[k]? = some o) (hp : ¬ S k) : w'.heap[k]? = some o :=
  (h.block k (Array.getElem?_eq_some_iff.1 hk).1 hp).trans hk
end

theorem obj_lt {w : World} {k : Nat} {o : Obj} (h : w.heap[k]? = some o) : k < w.heap.size := (Array.getElem?_eq_some_iff.1 h).1
/-- The block's cells' type. -/
def Ty (w : World) (k : Nat) (t : TypeId) : Prop := ∃ c fr, w.heap[k]? = some (.cells c t fr)
theorem Ty.ne {w : World} {j k : Nat} {s t : TypeId} (h : Ty w j s) (g : Ty w k t) (hst : s ≠ t) : j ≠ k := by
  rintro rfl
  obtain ⟨c, fr, h⟩ := h
  obtain ⟨d, gr, g⟩ := g
  rw [h] at g
  injection g with g
  injection g with _ g _
  exact hst g
theorem Ty.lt {w : World} {k : Nat} {t : TypeId} (h : Ty w k t) : k < w.heap.size := by obtain ⟨c, fr, h⟩ := h; exact obj_lt h
theorem Ty.mod {S : Nat → Prop} {w w' : World} {k : Nat} {t : TypeId} (h : Ty w k t) (hm : Mod S w w') (hk : ¬ S k) : Ty w' k t := by obtain ⟨c, fr, h⟩ := h; exact ⟨c, fr, hm.obj h hk⟩

section
variable {α : Type} {R R' : α → List Value → Prop} {e : TypeId} {size base : Nat} {v : Value} {ps : List α} {S : Nat → Prop} {w w' : World}
theorem own_mod {n : Nat} {xs : List Value} (h : w.ownsRow base e size v n xs) (hm : Mod S w w') (hv : ∀ k, v.ownBlock = some k → ¬ S k) : w'.ownsRow base e size v n xs := by
  refine ⟨h.1, ?_⟩
  rcases h.2 with hn | ⟨g, cap, cur, rfl, hb, hg, r⟩
  · exact .inl hn
  · exact .inr ⟨g, cap, cur, rfl, hb, hm.obj hg (hv g rfl), r⟩
theorem OwnRow.mod (h : OwnRow R e size w base v ps) (hm : Mod S w w') (hv : ∀ k, v.ownBlock = some k → ¬ S k) (hR : ∀ p c, p ∈ ps → R p c → R' p c) : OwnRow R' e size w' base v ps := by
  obtain ⟨inner, ho, hr⟩ := h
  exact ⟨inner, own_mod ho hm hv, hr.1, fun j p hj => hR _ _ (List.mem_of_getElem? hj) (hr.2 j p hj)⟩
theorem OwnRow.ty (h : OwnRow R e size w base v ps) {k : Nat} (hk : v.ownBlock = some k) : Ty w k e := by
  obtain ⟨inner, ho, _⟩ := h
  rcases ho.2 with ⟨rfl, _⟩ | ⟨g, cap, cur, rfl, _, hg, _⟩
  · simp [Value.ownBlock] at hk
  · simp only [Value.ownBlock, Option.some.injEq] at hk
    subst hk
    exact ⟨cur, (0, 0), hg⟩
/-- The blocks of a reading are of those that P says. -/
theorem ReadsRow.mod {A : Option Addr} {n : Nat} (h : ReadsRow R size w A n ps) (hm : Mod S w w') (hA : ∀ ad, A = some ad → 0 < n → ¬ S ad.block) (hR : ∀ p c, p ∈ ps → R p c → R' p c) : ReadsRow R' size w' A n ps :=
  ⟨h.1, h.2.1, fun hn => by
    obtain ⟨ad, e, hc⟩ := h.2.2 hn
    refine ⟨ad, e, fun j p hj => ?_⟩
    obtain ⟨c, hs, hr, hcell⟩ := hc j p hj
    refine ⟨c, hs, hR _ _ (List.mem_of_getElem? hj) hr, fun i u hu => hm.cell (hcell i u hu) ?_⟩
    rw [add_block]
    exact hA ad e hn⟩
end

end Go.Proofs.YthbnnlhkcaomlaaDoor.Ex
