/- strings.Join, laid; what ask calls. -/
import Derived.Test.YthbnnlhkcaomlaaDoorExName
import Derived.Shelf.Strings.OnBuilder
namespace Go.Proofs.YthbnnlhkcaomlaaDoor.Ex
open Go.RowKit Go.Shelf Go.Proofs.YthbnnlhkcaomlaaDoorW.PrintWords Go.Proofs.YthbnnlhkcaomlaaDoor.Gl

def joinRen : Go.Shelf.Ren := ⟨fun | 156 => 36 | 165 => 48 | 166 => 49 | 169 => 50 | 240 => 56 | 241 => 57 | 276 => 68 | 277 => 69 | n => n, fun | 0 => 0 | 3 => 3 | 4 => 4 | 5 => 5 | 9 => 9 | 20 => 20 | 31 => 24 | 37 => 42 | 70 => 97 | 72 => 99 | 75 => 102 | 76 => 103 | 80 => 105 | 127 => 114 | 164 => 130 | n => n, fun | n => n⟩
theorem joinLays : Go.Proofs.Lays.n156 Tryd.prog joinRen := {
  mixed := by kernel_rfl
  f156 := Tryd.func36.trans (congrArg some (by kernel_rfl))
  f165 := Tryd.func48.trans (congrArg some (by kernel_rfl))
  f166 := Tryd.func49.trans (congrArg some (by kernel_rfl))
  f169 := Tryd.func50.trans (congrArg some (by kernel_rfl))
  f240 := Tryd.func56.trans (congrArg some (by kernel_rfl))
  f241 := Tryd.func57.trans (congrArg some (by kernel_rfl))
  f276 := Tryd.func68.trans (congrArg some (by kernel_rfl))
  f277 := Tryd.func69.trans (congrArg some (by kernel_rfl))
  t0 := Tryd.underlying0
  a0 := Tryd.isAgg0
  z0 := Tryd.sizeOf0
  v0 := Tryd.zeroValue0
  t3 := Tryd.underlying3
  a3 := Tryd.isAgg3
  z3 := Tryd.sizeOf3
  v3 := Tryd.zeroValue3
  t4 := Tryd.underlying4
  a4 := Tryd.isAgg4
  z4 := Tryd.sizeOf4
  v4 := Tryd.zeroValue4
  t9 := Tryd.underlying9
  a9 := Tryd.isAgg9
  z9 := Tryd.sizeOf9
  v9 := Tryd.zeroValue9
  t20 := Tryd.underlying20
  a20 := Tryd.isAgg20
  z20 := Tryd.sizeOf20
  v20 := Tryd.zeroValue20
  t31 := Tryd.underlying24
  a31 := Tryd.isAgg24
  z31 := Tryd.sizeOf24
  v31 := Tryd.zeroValue24
  t37 := Tryd.underlying42
  a37 := Tryd.isAgg42
  z37 := Tryd.sizeOf42
  v37 := Tryd.zeroValue42
  t70 := Tryd.underlying97
  a70 := Tryd.isAgg97
  z70 := Tryd.sizeOf97
  v70 := Tryd.zeroValue97
  t72 := Tryd.underlying99
  a72 := Tryd.isAgg99
  z72 := Tryd.sizeOf99
  v72 := Tryd.zeroValue99
  t75 := Tryd.underlying102
  a75 := Tryd.isAgg102
  z75 := Tryd.sizeOf102
  v75 := Tryd.zeroValue102
  t76 := Tryd.underlying103
  a76 := Tryd.isAgg103
  z76 := Tryd.sizeOf103
  v76 := Tryd.zeroValue103
  t127 := Tryd.underlying114
  a127 := Tryd.isAgg114
  z127 := Tryd.sizeOf114
  v127 := Tryd.zeroValue114
  t164 := Tryd.underlying130
  a164 := Tryd.isAgg130
  z164 := Tryd.sizeOf130
  v164 := Tryd.zeroValue130 }

theorem joinExtra : Builder.Extra Tryd.prog joinRen := {
  sizeBuilder := by kernel_rfl
  liesBuilder := by kernel_rfl
  t5 := Tryd.underlying5
  a5 := Tryd.isAgg5
  z5 := Tryd.sizeOf5
  v5 := Tryd.zeroValue5
  infoByte := by kernel_rfl
  cellsByte := by kernel_rfl
  sizeByte := by kernel_rfl
  neB5 := by decide }

theorem str_cell {w : World} {b n : Nat} {l : List B} (h : Kd.string.C w (some ⟨b, 0, none⟩) n l) (j : Nat) (x : B) (hj : l[j]? = some x) : w.cell? ⟨b, 0 + j, none⟩ = some (.string x) := by
  obtain ⟨ad, e, hc⟩ := h.2.2 (by have := (List.getElem?_eq_some_iff.1 hj).1; have := h.1; omega)
  cases e
  obtain ⟨c, _, hr, hcell⟩ := hc j x hj
  have hr : c = [.string x] := hr
  subst hr
  have := hcell 0 _ rfl
  rw [show Kd.string.sz = 1 from rfl, Nat.mul_one, Nat.add_zero, add_plain] at this
  rw [Nat.zero_add]
  exact this
theorem join_call (l : List B) (b c : Nat) (w : World) (hC : Kd.string.C w (some ⟨b, 0, none⟩) l.length l) (hb : b < w.heap.size) (hc : l.length ≤ c) (hl : l.length < big) (hs : (joinA l).size ≤ bigT) :
    Calls Tryd.prog 36 #[.slice (some ⟨b, 0, none⟩) l.length c, .string ⟨#[32]⟩] w fun e w' => e = .returned (.string (joinA l)) ∧ Below w.heap.size w w' :=
  Any.strings_Join joinLays joinExtra b 0 c l ⟨#[32]⟩ w (fun j x hj => str_cell hC j x hj) hb (by unfold big at hl; omega) hc (by
    have h : (joinA l).size = (Lib.join (l.map (·.data.toList)) [32]).length := rfl
    unfold bigT at hs
    show (Lib.join (l.map (·.data.toList)) [32]).length ≤ _
    omega)

end Go.Proofs.YthbnnlhkcaomlaaDoor.Ex
