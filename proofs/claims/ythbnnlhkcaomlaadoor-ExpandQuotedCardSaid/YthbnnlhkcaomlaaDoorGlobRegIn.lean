/- A region that draws its order, inside a fence, by an invariant over which of its operations are done. -/
import Derived.OrdersIn
import Derived.Tactics
namespace Go.Proofs.YthbnnlhkcaomlaaDoor.Gl

section
variable {F : Fence} {n : Nat} {P : Program} {ops : Array Oper} {Q : Exit → Act → World → Prop} {md : Region.Mode}

theorem count_set {l : Array Bool} {i : Nat} (h : l.getD i true = false) : (l.setIfInBounds i true).toList.count false + 1 = l.toList.count false := by
  have hlt : i < l.size := by
    rcases Nat.lt_or_ge i l.size with h' | h'
    · exact h'
    · simp [Array.getElem?_eq_none h'] at h
  rw [Array.toList_setIfInBounds]
  have hi : l.toList[i]? = some false := by
    rw [Array.getElem?_toList, Array.getElem?_eq_getElem hlt]
    simpa [hlt] using h
  generalize l.toList = k at hi
  clear hlt h
  induction k generalizing i with
  | nil => simp at hi
  | cons x k ih =>
    cases i with
    | zero => simp at hi; subst hi; simp
    | succ i =>
      have := ih (i := i) (by simpa using hi)
      simp only [List.set_cons_succ, List.count_cons]
      omega

theorem ready_nil {l : Array Bool} (h : l.toList.count false = 0) : Region.ready md ops l = [] := by
  cases hr : Region.ready md ops l with
  | nil => rfl
  | cons i r =>
    have hi : i ∈ Region.ready md ops l := by rw [hr]; simp
    have := count_set (mem_ready.1 hi).1
    omega

/-- An invariant that every operation that may come up keeps, and that gives the end where none may. -/
theorem wpAnyIn_inv {I : Array Bool → Act → World → Prop}
    (hst : ∀ (l : Array Bool) a w i, l.size = ops.size → I l a w → i ∈ Region.ready md ops l → wpOpIn F n P ops Q i (I (l.setIfInBounds i true)) a w)
    (hend : ∀ (l : Array Bool) a w, l.size = ops.size → I l a w → Region.ready md ops l = [] → Q .normal a w) :
    ∀ (fuel : Nat) (l : Array Bool) a w, l.size = ops.size → l.toList.count false ≤ fuel → I l a w → wpAnyIn F n P md ops Q fuel l a w := by
  intro fuel
  induction fuel with
  | zero => intro l a w hs hc hI; exact ⟨ready_nil (by omega), hend l a w hs hI (ready_nil (by omega))⟩
  | succ fuel ih =>
    intro l a w hs hc hI
    refine ⟨hend l a w hs hI, fun i hi => ?_⟩
    have := count_set (mem_ready.1 hi).1
    exact wpOpIn_mono (fun a' w' h => ih _ a' w' (by simpa using hs) (by omega) h) (hst l a w i hs hI hi)

theorem wpIn_region_inv {id : Nat} {a : Act} {w : World} {l0 : List Oper} (hm : P.follows .mixedOrders = true) (I : Array Bool → Act → World → Prop)
    (h0 : I (Array.replicate l0.length false) a w.drew)
    (hst : ∀ (l : Array Bool) a w i o, l.size = l0.length → I l a w → l.getD i true = false → l0[i]? = some o → (∀ e ∈ o.after, Region.binds .any e = true → l.getD e.on false = true) →
      ∀ K' : Act → World → Prop, (∀ a w, I (l.setIfInBounds i true) a w → K' a w) → if Region.wanted o (yielded l0.toArray a.tmps) = true then Oper.wpIn F n P o a w K' Q else (∀ f, o.about P w a.eval = some f → F.fn f) ∧ K' (a.put o.dst undef) w)
    (hend : ∀ (l : Array Bool) a w, l.size = l0.length → I l a w → (∀ i o, l0[i]? = some o → (∀ e ∈ o.after, Region.binds .any e = true → l.getD e.on false = true) → l.getD i true = true) → Q .normal a w) :
    (Code.region id l0.toArray true).wpIn F n P Q a w := by
  refine wpIn_region_any hm ?_
  refine wpAnyIn_inv (I := I) ?_ ?_ _ _ _ _ (by simp) (by simp) (by simpa using h0)
  · intro l a w i hs hI hi
    obtain ⟨h1, o, ho, h2⟩ := mem_ready.1 hi
    exact wpOpIn_step ho (hst l a w i o (by simpa using hs) hI h1 (by simpa using ho) h2)
  · intro l a w hs hI hr
    refine hend l a w (by simpa using hs) hI fun i o ho h2 => ?_
    cases h3 : l.getD i true with
    | true => rfl
    | false =>
      have : i ∈ Region.ready .any l0.toArray l := mem_ready.2 ⟨h3, o, by simpa using ho, h2⟩
      rw [hr] at this
      cases this
end
end Go.Proofs.YthbnnlhkcaomlaaDoor.Gl
