/- An argument that is a slice of runs, opened: its runs, each read from its cells. -/
import Derived.Test.YthbnnlhkcaomlaaGlobChars
import Derived.Deep.Slices
import Derived.ChangeSame
import Derived.KernelRfl
namespace Go.Proofs.Ythbnnlhkcaomlaa.Gl
open Go.RowKit Go.Shelf Go.Proofs.YthbnnlhkcaomlaaW.PrintWords

theorem open_run {H : Type} {enc : TypeId × Value → H} {W : World} {fuel : Nat} {cs : List Value} {x : DataW H × List MemPlace} (h : DataW.trod enc Try.prog W 0 (fun _ => true) true fuel 33 cs = some x) : ∃ r : Rn, cs = [.string r.t, .bool r.q, .bool r.s] := by
  obtain ⟨xs, n, _, _, hl, hxl, hf⟩ := DataW.trod_struct Try.underlying33 h
  have hl3 : cs.length = 3 := hl.trans (by kernel_rfl)
  match cs, hl3 with
  | [a, b, c], _ =>
    have hx3 : xs.length = 3 := hxl
    have k0 : Try.prog.cellsOf 9 = 1 := by kernel_rfl
    have k1 : Try.prog.cellsOf 4 = 1 := by kernel_rfl
    have g0 : DataW.trod enc Try.prog W 0 (fun _ => true) true n 9 (List.take (Try.prog.cellsOf 9) [a, b, c]) = xs[0]? := hf 0 _ rfl
    have g1 : DataW.trod enc Try.prog W 0 (fun _ => true) true n 4 (List.take (Try.prog.cellsOf 4) [b, c]) = xs[1]? := hf 1 _ rfl
    have g2 : DataW.trod enc Try.prog W 0 (fun _ => true) true n 4 (List.take (Try.prog.cellsOf 4) [c]) = xs[2]? := hf 2 _ rfl
    rw [k0] at g0
    rw [k1] at g1 g2
    obtain ⟨t, e0, _⟩ := DataW.trod_string Try.underlying9 (g0.trans (List.getElem?_eq_getElem (by omega)))
    obtain ⟨q, e1, _⟩ := DataW.trod_bool Try.underlying4 (g1.trans (List.getElem?_eq_getElem (by omega)))
    obtain ⟨s, e2, _⟩ := DataW.trod_bool Try.underlying4 (g2.trans (List.getElem?_eq_getElem (by omega)))
    cases e0; cases e1; cases e2
    exact ⟨⟨t, q, s⟩, rfl⟩

instance : Inhabited Rn := ⟨⟨⟨#[]⟩, false, false⟩⟩

/-- A slice of runs. -/
theorem open_runs {H : Type} {enc : TypeId × Value → H} {W : World} {A : Option Addr} {len cap : Nat} {x : DataW H × List MemPlace} (h : ∃ fuel, DataW.trod enc Try.prog W 0 (fun _ => true) true fuel 22 [.slice A len cap] = some x) :
    ∃ rs : List Rn, rs.length = len ∧ len ≤ cap ∧ ReadsRow RnR 3 W A len rs := by
  obtain ⟨fuel, hf⟩ := h
  rcases Go.Deep.open_slice Try.underlying22 hf with ⟨e, _⟩ | ⟨a, l, c, m, n, D, Pl, e, hb, hl, hm, hmm, _, hi⟩
  · cases e
    exact ⟨[], rfl, Nat.le_refl _, rfl, by simp, fun h => absurd h (Nat.lt_irrefl 0)⟩
  · cases e
    have hk : Try.prog.cellsOf 33 = 3 := by kernel_rfl
    have hlm : len ≤ m := by rw [hmm]; simp; exact hl
    have each : ∀ i, i < len → ∃ r : Rn, W.cells? 0 (a.add (i * 3)) 3 = some [.string r.t, .bool r.q, .bool r.s] := by
      intro i hil
      obtain ⟨cs', h1, h2⟩ := hi i (by omega)
      rw [hk] at h1
      obtain ⟨r, rfl⟩ := open_run h2
      exact ⟨r, h1⟩
    obtain ⟨f, hf⟩ := Go.Deep.choose_lt each
    have hmx : len ≤ 9223372036854775807 := Nat.le_trans hl (Nat.le_trans hm (by decide))
    refine ⟨(List.range len).map f, by simp, hl, by simp, hmx, fun _ => ⟨a, rfl, fun j p hj => ?_⟩⟩
    have hjl : j < len := by have := (List.getElem?_eq_some_iff.1 hj).1; simpa using this
    have hp : p = f j := by simp [hjl] at hj; exact hj.symm
    subst hp
    refine ⟨_, rfl, rfl, fun i u hu => ?_⟩
    obtain ⟨_, hcl, hat⟩ := World.cells?_some (hf j hjl)
    have hil : i < 3 := (List.getElem?_eq_some_iff.1 hu).1
    rw [← Go.Deep.add_add, hat i hil]
    exact hu
end Go.Proofs.Ythbnnlhkcaomlaa.Gl
