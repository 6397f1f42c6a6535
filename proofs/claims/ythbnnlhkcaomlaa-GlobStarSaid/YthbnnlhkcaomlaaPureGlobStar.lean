/- The pure statement of GlobStar: a star between two quoted texts. -/
import Derived.Test.YthbnnlhkcaomlaaPGlobStarx1
import Derived.Test.YthbnnlhkcaomlaaGlobFacts2
namespace Go.Proofs.Ythbnnlhkcaomlaa.Pure
open Go.RowKit Go.Proofs.Ythbnnlhkcaomlaa.PGlobStar Go.Proofs.YthbnnlhkcaomlaaW.PrintWords Go.Proofs.YthbnnlhkcaomlaaW.PrintLast Go.Proofs.Ythbnnlhkcaomlaa

theorem match_f {l : List S33} {s : ByteArray} (h1 : sumOk l) (h2 : s.size ≤ 1099511627776) : glob_Match.f l s = some (Gl.matchP (Gl.pieces (Gl.charsOf (l.map rnOf))) s.data.toList) := if_pos ⟨h1, h2⟩
theorem mn_le {a b : Int} : mn a b ≤ a ∧ mn a b ≤ b := by unfold mn; split <;> omega
theorem mn_ge {a b : Int} (h : 0 ≤ a) (h' : 0 ≤ b) : 0 ≤ mn a b := by unfold mn; split <;> omega
theorem cut_size (a : ByteArray) (n : Int) : (a.extract 0 (mn (a.size : Int) n).toNat).size ≤ n.toNat := by
  rw [ByteArray.size_extract]
  have := (mn_le (a := (a.size : Int)) (b := n)).2
  omega

theorem GlobStar : whisklaw14_GlobStar.Pure := by
  intro a0 a1 a2 _ _ _
  have z0 := cut_size a0 10
  have z1 := cut_size a1 10
  have z2 := cut_size a2 30
  rw [whisklaw14_GlobStar.f, whisklaw14_works.f, Option.bind_some, if_pos rfl, if_pos (mn_ge (by omega) (by omega)), if_pos mn_le.1, if_pos (mn_ge (by omega) (by omega)), if_pos mn_le.1, if_pos (mn_ge (by omega) (by omega)), if_pos mn_le.1, Option.bind_some]
  generalize a0.extract 0 (mn (a0.size : Int) 10).toNat = a at *
  generalize a1.extract 0 (mn (a1.size : Int) 10).toNat = b at *
  generalize a2.extract 0 (mn (a2.size : Int) 30).toNat = s at *
  simp only [show (10 : Int).toNat = 10 from rfl, show (30 : Int).toNat = 30 from rfl] at z0 z1 z2
  have ew : wrap64 ((a.size : Int) + (b.size : Int)) = (a.size : Int) + (b.size : Int) := by unfold wrap64; omega
  have hch : Gl.charsOf (List.map rnOf [{ f0 := a, f1 := true, f2 := false }, { f0 := { data := #[42] }, f1 := false, f2 := false }, { f0 := b, f1 := true, f2 := false }]) = Gl.chq true a.data.toList ++ (42, false) :: Gl.chq true b.data.toList := by
    simp [Gl.charsOf, Gl.chOf, rnOf, Gl.chq]
  have hlen : ∀ q (x : ByteArray), (Gl.chq q x.data.toList).length = x.size := fun q x => by simp [Gl.chq]
  have hso : sumOk [{ f0 := a, f1 := true, f2 := false }, { f0 := { data := #[42] }, f1 := false, f2 := false }, { f0 := b, f1 := true, f2 := false }] := by
    unfold sumOk; rw [hch, List.length_append, List.length_cons, hlen, hlen]; omega
  have hM : ∀ x : ByteArray, x.size ≤ 100 → glob_Match.f [{ f0 := a, f1 := true, f2 := false }, { f0 := { data := #[42] }, f1 := false, f2 := false }, { f0 := b, f1 := true, f2 := false }] x = some (Gl.matchP (Gl.pieces (Gl.chq true a.data.toList ++ (42, false) :: Gl.chq true b.data.toList)) x.data.toList) := fun x hx => by
    rw [match_f hso (by omega), hch]
  have hG : glob_Magic.f [{ f0 := a, f1 := true, f2 := false }, { f0 := { data := #[42] }, f1 := false, f2 := false }, { f0 := b, f1 := true, f2 := false }] = some true := by
    rw [glob_Magic.f, if_pos hso, hch, Gl.star_odd]
  have hin : ∀ x : ByteArray, (a ++ x ++ b).data.toList = a.data.toList ++ x.data.toList ++ b.data.toList := fun x => by simp
  have hz : ∀ x : ByteArray, x.data.toList.length = x.size := fun x => (Lib.size_eq x).symm
  have hsz : (a ++ s ++ b).size ≤ 100 := by rw [ByteArray.size_append, ByteArray.size_append]; omega
  rw [ew, hM s (by omega), hM _ hsz, hG, Gl.star_law, hin, Gl.star_in, hz, hz, hz]
  simp only [strings_HasPrefix.f, strings_HasSuffix.f, Lib.hasPrefix, Lib.hasSuffix, Option.bind_some, if_pos (show s.size ≤ 9223372036854775807 from by omega), if_pos (show a.size + s.size ≤ 9223372036854775807 from by omega),
    if_pos (show (a ++ s).size + b.size ≤ 9223372036854775807 from by rw [ByteArray.size_append]; omega), if_true]
  by_cases hl : a.size + b.size ≤ s.size
  · rw [if_pos (show (s.size : Int) ≥ (a.size : Int) + (b.size : Int) from by omega), decide_eq_true hl, Bool.true_and]
    cases hp : a.data.toList.isPrefixOf s.data.toList with
    | true => simp
    | false => simp
  · rw [if_neg (show ¬ (s.size : Int) ≥ (a.size : Int) + (b.size : Int) from by omega), decide_eq_false hl, Bool.false_and]
    rfl

end Go.Proofs.Ythbnnlhkcaomlaa.Pure
