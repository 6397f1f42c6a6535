/- ExpandQuoted answers true and leaves its arguments as they were, for every two lists of texts (under what the listed tables hold); the card ties the tables to the program's text. -/
import Derived.Test.YthbnnlhkcaomlaaDoorExTop
import Derived.Test.YthbnnlhkcaomlaaDoorExQuotedW
import Derived.Test.YthbnnlhkcaomlaaDoorCards
import Derived.Test.YthbnnlhkcaomlaaDoorTie
import Derived.ShutString
import Derived.SliceStrings
import Derived.SevenTiedAt
namespace Go.Proofs.YthbnnlhkcaomlaaDoor.expandQuoted
open Go.ChangeShapes Go.WideShapes Go.ChangeAt Go.RowKit
open Go.ChangeMaps (open_string shut_string)
set_option linter.unusedVariables false
theorem laidOut : laidOutB Tryd.prog = true := by kernel_rfl
theorem strs_C {H : Type} {enc : TypeId × Value → H} {W : World} {A : Option Addr} {len cap : Nat} {x : DataW H × List MemPlace} (h : ∃ fuel, DataW.trod enc Tryd.prog W 0 (fun _ => true) true fuel 24 [.slice A len cap] = some x) :
    ∃ ss : List ByteArray, ss.length = len ∧ Go.Proofs.YthbnnlhkcaomlaaDoorW.PrintWords.Kd.C Go.Proofs.YthbnnlhkcaomlaaDoorW.PrintWords.Kd.string W A ss.length ss := by
  obtain ⟨fuel, h⟩ := h
  rcases Go.ChangeShapes.open_strings Tryd.underlying24 Tryd.underlying9 (by kernel_rfl) h with ⟨e, _⟩ | ⟨a, len', cap', ss, e, _, hlc, hm, hz, _, hcell, _⟩
  · cases e
    exact ⟨[], rfl, rfl, Nat.zero_le _, fun h => absurd h (Nat.lt_irrefl _)⟩
  · cases e
    have hl : len ≤ ss.length := by rw [hz]; split <;> omega
    have hlm : len ≤ 9223372036854775807 := by unfold maxLen at hm; omega
    have hlen : (ss.take len).length = len := by rw [List.length_take]; omega
    refine ⟨ss.take len, hlen, rfl, by rw [hlen]; exact hlm, fun hn => ⟨a, rfl, fun j p hj => ?_⟩⟩
    have hj1 : j < len := by have := (List.getElem?_eq_some_iff.1 hj).1; omega
    rw [List.getElem?_take_of_lt hj1] at hj
    refine ⟨[.string p], rfl, rfl, fun i u hu => ?_⟩
    have hi : i = 0 := by
      have := (List.getElem?_eq_some_iff.1 hu).1
      simpa using this
    subst hi
    cases hu
    have h1 := hcell j (by omega)
    rw [List.getD_eq_getElem?_getD, hj] at h1
    rw [show j * Go.Proofs.YthbnnlhkcaomlaaDoorW.PrintWords.Kd.string.sz + 0 = j from by show j * 1 + 0 = j; omega]
    exact h1
set_option maxRecDepth 100000 in
theorem lifted (os : Os) (started : os.Started) (H : Type) (enc : TypeId × Value → H) :
    ReturnsInHanded {} Tryd.checked os 4 .any (fun w args => (Rows.expandQuotedSpec.pre enc Tryd.prog Tryd.f4 Rows.expandQuotedRow.domain false w args ∧ laidMetH Tryd.prog Ex.laid3 w) ∧ sizedMet enc Tryd.prog Tryd.f4 (OpenSpec.ofChange Rows.expandQuotedSpec) false w args)
      (Rows.expandQuotedSpec.post enc Tryd.prog Tryd.f4 false true false false) := by
  refine returnsInHanded_of_change_and (C := Tryd.checked) (X := fun w _ => laidMetH Tryd.prog Ex.laid3 w) (fun _ _ _ hh h => h.of_heap hh) Ex.own started (by kernel_rfl) Tryd.func4
    (ChangeSpec.witness_shaped (enc := enc) (C := Tryd.checked) (os := os) (X := fun w _ => laidMetH Tryd.prog Ex.laid3 w) false (World.doorLaid Tryd.prog 4000 os) #[.slice none 0 0, .slice none 0 0] 8 rfl (World.shaped_of_RefB (by kernel_rfl) (by kernel_rfl)) (by kernel_rfl) (by kernel_rfl) (by kernel_rfl) (Ex.door_met os _)) ?_
  intro W base args ds gs before hval0 hW _ hsz0 hL _
  have hval : ∀ (j : Nat) t v, Tryd.f4.params[j]? = some t → args[j]? = some v → Value.okWide Tryd.prog W .any base t v := hval0
  have hW' := hW
  obtain ⟨p, q, hA0, hV, rfl, hfz, hnd⟩ := hW
  have hA : DataW.TrodAll enc Tryd.prog W 0 (fun _ => true) true Tryd.f4.params.toList args.toList ds p := hA0
  rw [Tryd.params4] at hA hval
  obtain ⟨v0, vs0, d0, ds0, p0, q0, hargs, rfl, rfl, h0, r0⟩ := trodAll_cons hA
  obtain ⟨v1, vs1, d1, ds1, p1, q1, rfl, rfl, rfl, h1, r1⟩ := trodAll_cons r0
  obtain ⟨rfl, rfl, rfl⟩ := trodAll_nil r1
  obtain rfl : args = #[v0, v1] := by cases args; simp_all
  obtain ⟨rfl, rfl⟩ := trodVars_none hV
  obtain ⟨a0, len0, cap0, rfl⟩ := okWide_slice Tryd.underlying24 (hval 0 24 v0 rfl rfl)
  obtain ⟨a1, len1, cap1, rfl⟩ := okWide_slice Tryd.underlying24 (hval 1 24 v1 rfl rfl)
  have k0 := h0
  have k1 := h1
  have lt0 : ∀ x ∈ p0, x.block < W.heap.size := by obtain ⟨m, hm⟩ := k0; exact DataW.trod_lt m _ _ _ hm
  have lt1 : ∀ x ∈ p1, x.block < W.heap.size := by obtain ⟨m, hm⟩ := k1; exact DataW.trod_lt m _ _ _ hm
  obtain ⟨rs0, hl0, hr0⟩ := strs_C h0
  obtain ⟨rs1, hl1, hr1⟩ := strs_C h1
  subst hl0 hl1
  clear hA0 hval0 hsz0
  refine (Ex.quoted_try rs0 rs1 a0 a1 cap0 cap1 W (Ex.tab_of_laid hL) hr0 hr1).mono fun e W' ⟨he, bel⟩ => ?_
  subst he
  exact ⟨_, rfl, _, _, _, [], _, [], hW', trodAll_mk1 (shut_bool Tryd.underlying4 _), (trodAll_cons_mk (Below.trod laidOut (by kernel_rfl) (of_decide_eq_true (by kernel_rfl)) k0 bel lt0) (trodAll_cons_mk (Below.trod laidOut (by kernel_rfl) (of_decide_eq_true (by kernel_rfl)) k1 bel lt1) trodAll_mk0)), rfl, bel.frame _, fun h => by cases h⟩
theorem over : Rows.expandQuotedRow.holds Tryd.pinned (OpenSpec.ofChange Rows.expandQuotedSpec) :=
  OpenClaim.holds_of_wide 4 Tryd.f4 rfl rfl rfl rfl rfl rfl rfl ⟨rfl, rfl, rfl, rfl, rfl⟩ rfl rfl rfl rfl rfl (by kernel_rfl) Tryd.func4 (by kernel_rfl)
    (of_decide_eq_true (by kernel_rfl)) (by unfold Func.isWrapper; first | (rw [if_pos (by decide +kernel)]; kernel_rfl) | (rw [if_neg (by decide +kernel)]; exact ⟨rfl, rfl⟩))
    (fun os started H enc _ => lifted os started H enc)
theorem card : Rows.ExpandQuotedCardSaid :=
  Claim7.holds_tied_plain_at .later [] [.data, .data, .data] true (true, "18271c640670d252ae8a1a637677553144544f7dc78adaff06081f2e670f019a") false
    over (fun _ h => by cases h) (by kernel_rfl) (fun _ h => by cases h) expandQuoted_row_tie rfl ⟨rfl, rfl⟩ (by kernel_rfl) rfl
    (fun f fn hf hfn => by
      obtain rfl : f = 4 := Option.some.inj ((show Tryd.prog.funcNamed "whisk/whisklaw15.ExpandQuoted" = some 4 by kernel_rfl).symm.trans hf) |>.symm
      obtain rfl : fn = Tryd.f4 := (Option.some.inj (Tryd.func4.symm.trans hfn)).symm
      exact ⟨by kernel_rfl, fun j t ht => by
        rw [Tryd.params4] at ht
        have h9 : t = 24 := by
          rcases j with _ | _ | j
          · simpa using ht.symm
          · simpa using ht.symm
          · simp at ht
        subst h9
        exact (show Tryd.prog.wantsStandIn 24 = false by kernel_rfl)⟩)
    (by kernel_rfl)
#print axioms card
end Go.Proofs.YthbnnlhkcaomlaaDoor.expandQuoted
namespace Go.Proofs.YthbnnlhkcaomlaaDoor
/-- The card, under a short name, for the claim. -/
theorem expandQuoted_holds : Rows.ExpandQuotedCardSaid := expandQuoted.card
end Go.Proofs.YthbnnlhkcaomlaaDoor
