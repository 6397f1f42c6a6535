/- A region that draws its order, by what each of its operations yields: whatever the order, each finds what it waits for. -/
import Derived.Test.YthbnnlhkcaomlaaGlobRegIn
import Derived.Below
import Derived.TacticsIn
namespace Go.Proofs.Ythbnnlhkcaomlaa.Gl
open Go.RowKit

section
variable {F : Fence} {n : Nat} {P : Program} {Q : Exit → Act → World → Prop}

/-- What an operation's step owes: each that it waits for has yielded; then it yields, and what lay lies. -/
def StepOk (F : Fence) (n : Nat) (P : Program) (Q : Exit → Act → World → Prop) (l0 : List Oper) (ds : List Tmp) (m : Nat) (df : List Deferred) (base : Array Value) (S : Nat → World → Value → Prop) (i : Nat) (o : Oper) : Prop :=
  ∀ (t : Array Value) (W : World), t.size = m → (∀ d, d ∉ ds → t.getD d undef = base.getD d undef) →
    (∀ e ∈ o.after, Region.binds .any e = true → ∃ d, ds[e.on]? = some d ∧ S e.on W (t.getD d undef)) →
    ∀ K : Act → World → Prop, (∀ v W', Below W.heap.size W W' → S i W' v → K ((⟨t, df⟩ : Act).put o.dst v) W') →
      if Region.wanted o (yielded l0.toArray t) = true then Oper.wpIn F n P o ⟨t, df⟩ W K Q else (∀ f, o.about P W (Act.eval ⟨t, df⟩) = some f → F.fn f) ∧ K ((⟨t, df⟩ : Act).put o.dst undef) W

def StepsOk (F : Fence) (n : Nat) (P : Program) (Q : Exit → Act → World → Prop) (l0 : List Oper) (ds : List Tmp) (m : Nat) (df : List Deferred) (base : Array Value) (S : Nat → World → Value → Prop) : Nat → List Oper → Prop
  | _, [] => True
  | i, o :: l => StepOk F n P Q l0 ds m df base S i o ∧ StepsOk F n P Q l0 ds m df base S (i + 1) l

theorem StepsOk.get {l0 : List Oper} {ds : List Tmp} {m : Nat} {df : List Deferred} {base : Array Value} {S : Nat → World → Value → Prop} : ∀ {l : List Oper} {j : Nat}, StepsOk F n P Q l0 ds m df base S j l → ∀ {i : Nat} {o : Oper}, l[i]? = some o → StepOk F n P Q l0 ds m df base S (j + i) o
  | [], _, _, i, o, h => by simp at h
  | x :: l, j, hs, 0, o, h => by cases (show x = o from by simpa using h); exact hs.1
  | x :: l, j, hs, i + 1, o, h => by
    have := StepsOk.get hs.2 (i := i) (by simpa using h)
    rwa [show j + 1 + i = j + (i + 1) from by omega] at this

/-- Every edge leads back. -/
def backB (l0 : List Oper) : Bool := (List.range l0.length).all fun i => match l0[i]? with
  | some o => o.after.all fun e => !(Region.binds .any e) || decide (e.on < i)
  | none => true
/-- Each operation has a place of its own. -/
def dstB (l0 : List Oper) (ds : List Tmp) (m : Nat) : Bool := decide (l0.map (·.dst) = ds.map some) && decide ds.Nodup && ds.all fun d => decide (d < m)

theorem getD_set_same {t : Array Value} {d : Nat} {v : Value} (h : d < t.size) : (t.setIfInBounds d v).getD d undef = v := by
  simp [Array.getD_eq_getD_getElem?, h]
theorem getD_set_ne {t : Array Value} {d e : Nat} {v : Value} (h : d ≠ e) : (t.setIfInBounds d v).getD e undef = t.getD e undef := by
  simp [Array.getD_eq_getD_getElem?, h]

theorem tf {l : Array Bool} {i : Nat} (h : i < l.size) (ht : l.getD i true = true) : l.getD i false = true := by
  simp [Array.getD_eq_getD_getElem?, h] at ht ⊢; exact ht

theorem wpIn_region_spec {id : Nat} {a : Act} {w : World} {l0 : List Oper} (hm : P.follows .mixedOrders = true) (m : Nat) (ds : List Tmp) (hdst : dstB l0 ds m = true) (hback : backB l0 = true) (hsz : a.tmps.size = m)
    (S : Nat → World → Value → Prop) (hS : ∀ i W W' v, S i W v → Below W.heap.size W W' → S i W' v)
    (hst : StepsOk F n P Q l0 ds m a.defers a.tmps S 0 l0)
    (hend : ∀ (t : Array Value) W, t.size = m → (∀ d, d ∉ ds → t.getD d undef = a.tmps.getD d undef) → (∀ i d, ds[i]? = some d → S i W (t.getD d undef)) → Below w.heap.size w W → Q .normal ⟨t, a.defers⟩ W) :
    (Code.region id l0.toArray true).wpIn F n P Q a w := by
  simp only [dstB, Bool.and_eq_true, decide_eq_true_eq, List.all_eq_true] at hdst
  obtain ⟨⟨hd1, hd2⟩, hd3⟩ := hdst
  have hdl : ds.length = l0.length := by have := congrArg List.length hd1; simpa using this.symm
  have hdi : ∀ (i : Nat) (o : Oper), l0[i]? = some o → o.dst = ds[i]? := by
    intro i o ho
    have h := congrArg (fun l => l[i]?) hd1
    simp only [List.getElem?_map, ho, Option.map_some] at h
    cases hds : ds[i]? with
    | none => rw [hds] at h; cases h
    | some d => rw [hds] at h; simpa using h
  refine wpIn_region_inv hm (fun l b W => ∃ t, b = ⟨t, a.defers⟩ ∧ t.size = m ∧ (∀ d, d ∉ ds → t.getD d undef = a.tmps.getD d undef) ∧ Below w.heap.size w W ∧ ∀ i d, l.getD i false = true → ds[i]? = some d → S i W (t.getD d undef)) ?_ ?_ ?_
  · refine ⟨a.tmps, rfl, hsz, fun _ _ => rfl, (Below.refl _ _).drew, fun i d hl hd => ?_⟩
    have hi : i < l0.length := by rw [← hdl]; exact (List.getElem?_eq_some_iff.1 hd).1
    simp [Array.getD_eq_getD_getElem?, hi] at hl
  · rintro l b W i o hl ⟨t, rfl, hts, hto, hb, hdone⟩ hi ho hafter K' hK
    have hil : i < l0.length := (List.getElem?_eq_some_iff.1 ho).1
    obtain ⟨di, hdi'⟩ : ∃ d, ds[i]? = some d := ⟨_, List.getElem?_eq_getElem (by omega)⟩
    have hod := hdi i o ho
    rw [hdi'] at hod
    have hst' := hst.get ho
    rw [Nat.zero_add] at hst'
    refine hst' t W hts hto (fun e he hb' => ?_) K' (fun v W' hbw hv => ?_)
    · have hon : e.on < i := by
        have h1 := hback
        unfold backB at h1
        rw [List.all_eq_true] at h1
        have h2 := h1 i (by simpa using hil)
        rw [ho] at h2
        simp only [Array.all_eq_true_iff_forall_mem] at h2
        have h3 := h2 e he
        rw [hb'] at h3
        simpa using h3
      obtain ⟨d, hd⟩ : ∃ d, ds[e.on]? = some d := ⟨_, List.getElem?_eq_getElem (by omega)⟩
      exact ⟨d, hd, hdone _ _ (hafter e he hb') hd⟩
    · refine hK _ _ ?_
      rw [hod]
      have hdm : di < t.size := by rw [hts]; simpa using hd3 di (List.mem_of_getElem? hdi')
      refine ⟨t.setIfInBounds di v, rfl, by simpa using hts, fun d hd => ?_, hb.trans (hbw.mono hb.size), fun j d hj hd => ?_⟩
      · rw [getD_set_ne (fun e => hd (by rw [← e]; exact List.mem_of_getElem? hdi'))]; exact hto d hd
      · by_cases hij : j = i
        · subst hij
          rw [hdi'] at hd; cases hd
          rw [getD_set_same hdm]; exact hv
        · have hne : di ≠ d := by
            intro e
            subst e
            have hjl : j < ds.length := (List.getElem?_eq_some_iff.1 hd).1
            exact hij ((List.getElem?_inj hjl hd2).1 (hd.trans hdi'.symm))
          rw [getD_set_ne hne]
          refine hS _ _ _ _ (hdone j d ?_ hd) hbw
          rw [Array.getD_eq_getD_getElem?, Array.getElem?_setIfInBounds, if_neg (by omega)] at hj
          rw [Array.getD_eq_getD_getElem?]; exact hj
  · rintro l b W hl ⟨t, rfl, hts, hto, hb, hdone⟩ hall
    have hall' : ∀ i, i < l0.length → l.getD i true = true := by
      intro i
      induction i using Nat.strongRecOn with
      | ind i ih =>
        intro hil
        refine hall i _ (List.getElem?_eq_getElem hil) (fun e he hb' => ?_)
        have hon : e.on < i := by
          have h1 := hback
          unfold backB at h1
          rw [List.all_eq_true] at h1
          have h2 := h1 i (by simpa using hil)
          rw [List.getElem?_eq_getElem hil] at h2
          simp only [Array.all_eq_true_iff_forall_mem] at h2
          have h3 := h2 e he
          rw [hb'] at h3
          simpa using h3
        exact tf (by omega) (ih e.on hon (by omega))
    exact hend t W hts hto (fun i d hd => by have hil : i < l0.length := by rw [← hdl]; exact (List.getElem?_eq_some_iff.1 hd).1
                                             exact hdone i d (tf (by omega) (hall' i hil)) hd) hb

theorem StepsOk.cons {l0 : List Oper} {ds : List Tmp} {m : Nat} {df : List Deferred} {base : Array Value} {S : Nat → World → Value → Prop} {i : Nat} {o : Oper} {l : List Oper}
    (h : StepOk F n P Q l0 ds m df base S i o) (t : StepsOk F n P Q l0 ds m df base S (i + 1) l) : StepsOk F n P Q l0 ds m df base S i (o :: l) := ⟨h, t⟩

/-- The same of a region in the text's own order. -/
theorem wpIn_region_specL {id : Nat} {a : Act} {w : World} {l0 : List Oper} (m : Nat) (ds : List Tmp) (hdst : dstB l0 ds m = true) (hback : backB l0 = true) (hsz : a.tmps.size = m)
    (S : Nat → World → Value → Prop) (hS : ∀ i W W' v, S i W v → Below W.heap.size W W' → S i W' v)
    (hst : StepsOk F n P Q l0 ds m a.defers a.tmps S 0 l0)
    (hend : ∀ (t : Array Value) W, t.size = m → (∀ d, d ∉ ds → t.getD d undef = a.tmps.getD d undef) → (∀ i d, ds[i]? = some d → S i W (t.getD d undef)) → Below w.heap.size w W → Q .normal ⟨t, a.defers⟩ W) :
    (Code.region id l0.toArray false).wpIn F n P Q a w := by
  simp only [dstB, Bool.and_eq_true, decide_eq_true_eq, List.all_eq_true] at hdst
  obtain ⟨⟨hd1, hd2⟩, hd3⟩ := hdst
  have hdl : ds.length = l0.length := by have := congrArg List.length hd1; simpa using this.symm
  have hdi : ∀ (i : Nat) (o : Oper), l0[i]? = some o → o.dst = ds[i]? := by
    intro i o ho
    have h := congrArg (fun l => l[i]?) hd1
    simp only [List.getElem?_map, ho, Option.map_some] at h
    cases hds : ds[i]? with
    | none => rw [hds] at h; cases h
    | some d => rw [hds] at h; simpa using h
  refine wpIn_region_lit ?_
  have key : ∀ (rest pre : List Oper), l0 = pre ++ rest → ∀ (t : Array Value) (W : World), t.size = m → (∀ d, d ∉ ds → t.getD d undef = a.tmps.getD d undef) → Below w.heap.size w W →
      (∀ i d, i < pre.length → ds[i]? = some d → S i W (t.getD d undef)) → wpListIn F n P l0.toArray Q rest ⟨t, a.defers⟩ W := by
    intro rest
    induction rest with
    | nil =>
      intro pre hpre t W hts hto hb hdone
      rw [List.append_nil] at hpre
      exact hend t W hts hto (fun i d hd => hdone i d (by rw [← hpre, ← hdl]; exact (List.getElem?_eq_some_iff.1 hd).1) hd) hb
    | cons o rest ih =>
      intro pre hpre t W hts hto hb hdone
      have ho : l0[pre.length]? = some o := by rw [hpre]; simp
      have hil : pre.length < l0.length := (List.getElem?_eq_some_iff.1 ho).1
      obtain ⟨di, hdi'⟩ : ∃ d, ds[pre.length]? = some d := ⟨_, List.getElem?_eq_getElem (by omega)⟩
      have hod := hdi _ o ho
      rw [hdi'] at hod
      have hst' := hst.get ho
      rw [Nat.zero_add] at hst'
      refine wpListIn_step fun K hK => hst' t W hts hto (fun e he hb' => ?_) K (fun v W' hbw hv => ?_)
      · have hon : e.on < pre.length := by
          have h1 := hback
          unfold backB at h1
          rw [List.all_eq_true] at h1
          have h2 := h1 pre.length (by simpa using hil)
          rw [ho] at h2
          simp only [Array.all_eq_true_iff_forall_mem] at h2
          have h3 := h2 e he
          rw [hb'] at h3
          simpa using h3
        obtain ⟨d, hd⟩ : ∃ d, ds[e.on]? = some d := ⟨_, List.getElem?_eq_getElem (by omega)⟩
        exact ⟨d, hd, hdone _ _ hon hd⟩
      · refine hK _ _ ?_
        rw [hod]
        have hdm : di < t.size := by rw [hts]; simpa using hd3 di (List.mem_of_getElem? hdi')
        refine ih (pre ++ [o]) (by rw [hpre]; simp) (t.setIfInBounds di v) W' (by simpa using hts) (fun d hd => ?_) (hb.trans (hbw.mono hb.size)) (fun j d hj hd => ?_)
        · rw [getD_set_ne (fun e => hd (by rw [← e]; exact List.mem_of_getElem? hdi'))]; exact hto d hd
        · rw [List.length_append, List.length_singleton] at hj
          by_cases hij : j = pre.length
          · subst hij
            rw [hdi'] at hd; cases hd
            rw [getD_set_same hdm]; exact hv
          · have hne : di ≠ d := by
              intro e
              subst e
              have hjl : j < ds.length := (List.getElem?_eq_some_iff.1 hd).1
              exact hij ((List.getElem?_inj hjl hd2).1 (hd.trans hdi'.symm))
            rw [getD_set_ne hne]
            exact hS _ _ _ _ (hdone j d (by omega) hd) hbw
  exact key l0 [] rfl a.tmps w hsz (fun _ _ => rfl) (Below.refl _ _) (fun i d hi => absurd hi (by simp))
end
end Go.Proofs.Ythbnnlhkcaomlaa.Gl
