/- GlobBytes answers true whatever its arguments are, and leaves them as they were: no condition. -/
import Derived.Test.YthbnnlhkcaomlaaRows
import Derived.Test.YthbnnlhkcaomlaaPGlobBytesx
import Derived.Test.YthbnnlhkcaomlaaPureGlobBytes
import Derived.Test.YthbnnlhkcaomlaaGlobOpen
import Derived.WalkKit
import Derived.ProofKit
import Derived.OpenShut
import Derived.ShutString
import Derived.ChangeOld
import Derived.Below
import Derived.SizedLaws
import Derived.Carry
namespace Go.Proofs.Ythbnnlhkcaomlaa.globBytes
open Go.ChangeShapes Go.WideShapes Go.ChangeAt Go.RowKit Go.Proofs.YthbnnlhkcaomlaaW.PrintWords
open Go.ChangeMaps (open_string shut_string)
theorem own : ownKnob Try.prog.godebug = none := by kernel_rfl
theorem laidOut : laidOutB Try.prog = true := by kernel_rfl
def ofRn (r : Gl.Rn) : PGlobBytes.S33 := ⟨r.t, r.q, r.s⟩
theorem runs_C {W : World} {A : Option Addr} {n : Nat} {rs : List Gl.Rn} (h : ReadsRow Gl.RnR 3 W A n rs) : Kd.C PGlobBytes.k33 W A n (rs.map ofRn) := by
  refine ⟨by rw [List.length_map]; exact h.1, h.2.1, fun hn => ?_⟩
  obtain ⟨ad, e, hc⟩ := h.2.2 hn
  refine ⟨ad, e, fun j p hj => ?_⟩
  rw [List.getElem?_map, Option.map_eq_some_iff] at hj
  obtain ⟨r, hr, rfl⟩ := hj
  obtain ⟨c, hl, hk, hcell⟩ := hc j r hr
  unfold Gl.RnR at hk
  subst hk
  exact ⟨_, rfl, PGlobBytes.k33_mk W (ofRn r), hcell⟩
set_option maxRecDepth 100000 in
theorem lifted (os : Os) (started : os.Started) (H : Type) (enc : TypeId × Value → H) :
    ReturnsInHanded {} Try.checked os 3 .any (Rows.globBytesSpec.pre6 enc Try.prog Try.f3 Rows.globBytesRow.domain false) (Rows.globBytesSpec.post enc Try.prog Try.f3 false true false false) := by
  refine returnsInHanded_of_change_sized (C := Try.checked) own started (by kernel_rfl) Try.func3
    (ChangeSpec.witness6 (enc := enc) (C := Try.checked) false ⟨#[], #[.slice none 0 0], []⟩ 8 (by kernel_rfl) (by kernel_rfl) (by kernel_rfl) (by kernel_rfl)) ?_
  intro W base args ds gs before hval0 hW hcnd hsz0 _
  have hsz : (DataW.weightsEach Try.prog (Try.f3.params.toList ++ Rows.globBytesSpec.plain.varTypes Try.prog) (ds ++ gs)).all (· ≤ reachBytes) = true := hsz0
  have hval : ∀ (j : Nat) t v, Try.f3.params[j]? = some t → args[j]? = some v → Value.okWide Try.prog W .any base t v := hval0
  have hW' := hW
  obtain ⟨p, q, hA0, hV, rfl, hfz, hnd⟩ := hW
  have hA : DataW.TrodAll enc Try.prog W 0 (fun _ => true) true Try.f3.params.toList args.toList ds p := hA0
  rw [Try.params3] at hA hval hsz
  obtain ⟨v0, vs0, d0, ds0, p0, q0, hargs, rfl, rfl, h0, r0⟩ := trodAll_cons hA
  obtain ⟨rfl, rfl, rfl⟩ := trodAll_nil r0
  obtain rfl : args = #[v0] := by cases args; simp_all
  obtain ⟨rfl, rfl⟩ := trodVars_none hV
  obtain ⟨a0, len0, cap0, rfl⟩ := okWide_slice Try.underlying22 (hval 0 22 v0 rfl rfl)
  have k0 := h0
  have lt0 : ∀ x ∈ p0, x.block < W.heap.size := by obtain ⟨m, hm⟩ := k0; exact DataW.trod_lt m _ _ _ hm
  obtain ⟨rs0, hl0, hc0, hr0⟩ := Gl.open_runs h0
  subst hl0
  clear hA0 hval0 hsz0 hsz
  obtain ⟨k, hk⟩ := Pure.GlobBytes (rs0.map ofRn) 
  have e0 : (rs0.map ofRn).length = rs0.length := List.length_map _
  have hcall := PGlobBytes.whisklaw14_GlobBytes.calls k a0 cap0 (rs0.map ofRn) true W (by rw [e0]; exact runs_C hr0) (by rw [e0]; exact hc0) hk
  rw [e0] at hcall
  refine hcall.mono fun e W' ⟨he, bel⟩ => ?_
  subst he
  exact ⟨_, rfl, _, _, _, [], _, [], hW', trodAll_mk1 (shut_bool Try.underlying4 _), (trodAll_cons_mk (Below.trod laidOut (by kernel_rfl) (of_decide_eq_true (by kernel_rfl)) k0 bel lt0) trodAll_mk0), rfl, bel.frame _, fun h => by cases h⟩
theorem over : Rows.globBytesRow.holds Try.pinned (OpenSpec.ofChange Rows.globBytesSpec) :=
  OpenClaim.holds_of_wide 3 Try.f3 rfl rfl rfl rfl rfl rfl rfl ⟨rfl, rfl, rfl, rfl, rfl⟩ rfl rfl rfl rfl rfl (by kernel_rfl) Try.func3 (by kernel_rfl)
    (of_decide_eq_true (by kernel_rfl)) (by unfold Func.isWrapper; first | (rw [if_pos (by decide +kernel)]; kernel_rfl) | (rw [if_neg (by decide +kernel)]; exact ⟨rfl, rfl⟩))
    (fun os started H enc _ => lifted os started H enc)
theorem proved : Rows.GlobBytesSaid := over
#print axioms proved
end Go.Proofs.Ythbnnlhkcaomlaa.globBytes
namespace Go.Proofs.Ythbnnlhkcaomlaa
/-- The row, under a short name, for the claim. -/
theorem globBytes_holds : Rows.GlobBytesSaid := globBytes.proved
end Go.Proofs.Ythbnnlhkcaomlaa
