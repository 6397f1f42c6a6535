/- The pure statement of GlobPlain: a pattern without a special piece matches its own text alone. -/
import Derived.Test.YthbnnlhkcaomlaaPGlobPlainx
import Derived.Test.YthbnnlhkcaomlaaGlobFacts2
namespace Go.Proofs.Ythbnnlhkcaomlaa.Pure
open Go.RowKit Go.Proofs.Ythbnnlhkcaomlaa.PGlobPlain Go.Proofs.YthbnnlhkcaomlaaW.PrintWords Go.Proofs.YthbnnlhkcaomlaaW.PrintLast Go.Proofs.YthbnnlhkcaomlaaW.PrintMore Go.Proofs.Ythbnnlhkcaomlaa

theorem mn_le {a b : Int} : mn a b ≤ a ∧ mn a b ≤ b := by unfold mn; split <;> omega
theorem mn_ge {a b : Int} (h : 0 ≤ a) (h' : 0 ≤ b) : 0 ≤ mn a b := by unfold mn; split <;> omega
theorem cut_size (a : ByteArray) (n : Int) : (a.extract 0 (mn (a.size : Int) n).toNat).size ≤ n.toNat := by
  rw [ByteArray.size_extract]
  have := (mn_le (a := (a.size : Int)) (b := n)).2
  omega
theorem match_f {l : List S33} {s : ByteArray} (h1 : sumOk l) (h2 : s.size ≤ 1099511627776) : glob_Match.f l s = some (Gl.matchP (Gl.pieces (Gl.charsOf (l.map rnOf))) s.data.toList) := if_pos ⟨h1, h2⟩

theorem wrap_sub {l m : Int} (h0 : 0 ≤ m) (h1 : m ≤ l) (h2 : l ≤ 14) : wrap64 (l - m) = l - m := by unfold wrap64; omega
theorem wrap_succ {i : Nat} (h : i ≤ 1000) : wrap64 ((i : Int) + 1) = ((i + 1 : Nat) : Int) := by unfold wrap64; omega

theorem cut_arith {C : Nat} {M left : Int} (h0 : 0 ≤ M) (h1 : M ≤ left) (hc : C + left.toNat ≤ 14) : C + M.toNat + (left - M).toNat ≤ 14 := by omega
theorem cut_chars (acc : List S33) (T : ByteArray) (q s : Bool) : (Gl.charsOf ((acc ++ [(⟨T, q, s⟩ : S33)]).map rnOf)).length = (Gl.charsOf (acc.map rnOf)).length + T.size := by
  rw [List.map_append, Gl.charsOf, List.flatMap_append, List.length_append, ← Gl.charsOf]
  congr 1
  simp [Gl.chOf, rnOf]

/-- The cut pattern: fourteen characters at most, fourteen runs at most. -/
theorem cut_ok (x : List S33) : ∀ (j i : Nat) (left : Int) (acc : List S33), i + j = 14 → 0 ≤ left → left ≤ 14 → acc.length ≤ i → (Gl.charsOf (acc.map rnOf)).length + left.toNat ≤ 14 →
    ∃ k r, whisklaw14_cut.l0 k x left acc (i : Int) = some r ∧ (Gl.charsOf (r.map rnOf)).length ≤ 14 ∧ r.length ≤ 14 := by
  intro j
  induction j with
  | zero =>
    intro i left acc hi _ _ hl hc
    refine ⟨1, acc, ?_, by omega, by omega⟩
    rw [whisklaw14_cut.l0]
    split
    · rw [if_neg (by omega)]
    · rfl
  | succ j ih =>
    intro i left acc hi h0 h14 hl hc
    by_cases hx : (i : Int) < (x.length : Int)
    · obtain ⟨X, hX⟩ : ∃ X, rd_T33 x (i : Int) = X := ⟨_, rfl⟩
      have hm := mn_le (a := (X.f0.size : Int)) (b := left)
      have hg := mn_ge (a := (X.f0.size : Int)) (b := left) (by omega) h0
      obtain ⟨M, hM⟩ : ∃ M, mn (X.f0.size : Int) left = M := ⟨_, rfl⟩
      rw [hM] at hm hg
      obtain ⟨T, hT⟩ : ∃ T, X.f0.extract 0 M.toNat = T := ⟨_, rfl⟩
      have hs : T.size = M.toNat := by rw [← hT, ByteArray.size_extract]; omega
      have ew : wrap64 (left - (T.size : Int)) = left - M := by rw [hs, Int.toNat_of_nonneg hg]; exact wrap_sub hg hm.2 h14
      have ei : wrap64 ((i : Int) + 1) = ((i + 1 : Nat) : Int) := wrap_succ (by clear hs hm hg hc hx; omega)
      have hfin : (Gl.charsOf ((acc ++ [(⟨T, X.f1, X.f2⟩ : S33)]).map rnOf)).length + (left - M).toNat ≤ 14 := by
        rw [cut_chars, hs]
        exact cut_arith hg hm.2 hc
      have hl2 : (acc ++ [(⟨T, X.f1, X.f2⟩ : S33)]).length ≤ i + 1 := by rw [List.length_append]; exact Nat.succ_le_succ hl
      have b1 : (0 : Int) ≤ left - M := Int.sub_nonneg_of_le hm.2
      have b2 : left - M ≤ 14 := Int.le_trans (Int.sub_le_self left hg) h14
      have b3 : (i + 1) + j = 14 := by clear hfin hl2 hc hl hs hm; omega
      have b4 : (i : Int) < 14 := by clear hfin hl2 hc hl hs hm; omega
      have b5 : acc.length < 5864062014805 := Nat.lt_of_le_of_lt hl (by clear hfin hl2 hc hl hs hm; omega)
      obtain ⟨k, r, hk, h1, h2⟩ := ih (i + 1) (left - M) (acc ++ [(⟨T, X.f1, X.f2⟩ : S33)]) b3 b1 b2 hl2 hfin
      refine ⟨k + 1, r, ?_, h1, h2⟩
      rw [whisklaw14_cut.l0, if_pos hx, if_pos b4, if_pos (Int.natCast_nonneg i), hX, hM, if_pos hg, if_pos hm.1, if_pos b5, hT, ew, ei]
      exact hk
    · refine ⟨1, acc, ?_, by omega, by omega⟩
      rw [whisklaw14_cut.l0, if_neg hx]

theorem cut_f (x : List S33) : ∃ k r, whisklaw14_cut.f k x = some r ∧ (Gl.charsOf (r.map rnOf)).length ≤ 14 ∧ r.length ≤ 14 :=
  cut_ok x 14 0 14 [] rfl (by decide) (by decide) (Nat.le_refl _) (by decide)

/-- Without a special piece each character is a piece of its own. -/
theorem plain_pieces : ∀ (n : Nat) (l : List Gl.Ch), l.length ≤ n → (Gl.pieces l).any Gl.Piece.odd = false → Gl.pieces l = (l.map (·.1)).map Gl.Piece.lit := by
  intro n
  induction n with
  | zero => intro l hl _; rw [List.length_eq_zero_iff.1 (show l.length = 0 from by omega)]; rfl
  | succ n ih =>
    intro l hl h
    cases l with
    | nil => rfl
    | cons c l =>
      cases hs : Gl.setOf (c :: l) with
      | some s => rw [Gl.pieces_set hs, List.any_cons] at h; simp [Gl.Piece.odd] at h
      | none =>
        rw [Gl.pieces_none hs, List.any_cons, Bool.or_eq_false_iff] at h
        have ho : Gl.ofCh c = .lit c.1 := by
          have h1 := h.1
          unfold Gl.ofCh at h1 ⊢
          split
          · rename_i hc; rw [if_pos hc] at h1; cases h1
          · split
            · rename_i hc hc2; rw [if_neg hc, if_pos hc2] at h1; cases h1
            · rfl
        rw [Gl.pieces_none hs, ho, ih l (by simp at hl; omega) h.2]
        rfl

theorem chars_plain (l : List Gl.Rn) : (Gl.charsOf l).map (·.1) = Gl.plainL l := by
  induction l with
  | nil => rfl
  | cons r l ih =>
    show (Gl.chOf r ++ Gl.charsOf l).map (·.1) = r.t.data.toList ++ Gl.plainL l
    rw [List.map_append, ih, Gl.chOf, List.map_map]
    congr 1
    exact List.map_id _

theorem eq_text (a b : ByteArray) : (a.toList == b.toList) = decide (a.data.toList = b.data.toList) := by
  rw [Lib.toList_data, Lib.toList_data, Bool.eq_iff_iff]; simp

theorem GlobPlain (l0 : List S33) (a1 : ByteArray) (_ : a1.size ≤ 140737488351232) : ∃ k, whisklaw14_GlobPlain.f k l0 a1 = some true := by
  obtain ⟨k, p, hk, hp, _⟩ := cut_f l0
  have hcut : whisklaw14_cut.f (k + 1) l0 = some p := whisklaw14_cut.mono l0 k p hk
  refine ⟨k + 1, ?_⟩
  have z := cut_size a1 20
  rw [whisklaw14_GlobPlain.f, whisklaw14_works.f, Option.bind_some, if_pos rfl, hcut, Option.bind_some, if_pos (mn_ge (by omega) (by omega)), if_pos mn_le.1]
  generalize a1.extract 0 (mn (a1.size : Int) 20).toNat = s at *
  simp only [show (20 : Int).toNat = 20 from rfl] at z
  have hso : sumOk p := by unfold sumOk; omega
  obtain ⟨t, ht⟩ : ∃ t : ByteArray, t = ⟨(Gl.plainL (p.map rnOf)).toArray⟩ := ⟨_, rfl⟩
  have htl : t.data.toList = Gl.plainL (p.map rnOf) := by rw [ht]
  have hts : t.size ≤ 14 := by rw [Lib.size_eq, htl, Gl.plainL_length]; exact hp
  have hq : Gl.charsOf (List.map rnOf [(⟨t, true, false⟩ : S33)]) = Gl.chq true t.data.toList := by simp [Gl.charsOf, Gl.chOf, rnOf, Gl.chq]
  have hqs : sumOk [(⟨t, true, false⟩ : S33)] := by unfold sumOk; rw [hq]; simp [Gl.chq]; omega
  have hqp : Gl.pieces (Gl.chq true t.data.toList) = t.data.toList.map Gl.Piece.lit := by
    have := Gl.pieces_quoted t.data.toList []
    rwa [List.append_nil, Gl.pieces_nil, List.append_nil] at this
  have hM : ∀ x : ByteArray, x.size ≤ 100 → glob_Match.f [(⟨t, true, false⟩ : S33)] x = some (decide (x.data.toList = t.data.toList)) := fun x hx => by
    rw [match_f hqs (by omega), hq, hqp, Gl.match_all_lits]
  have hG : glob_Magic.f [(⟨t, true, false⟩ : S33)] = some false := by rw [glob_Magic.f, if_pos hqs, hq, hqp, Gl.lits_odd]
  have hP : glob_Plain.f p = some t := by rw [glob_Plain.f, if_pos hso, ht]
  simp only [hP, Option.bind_some, whisklaw14_quoted.f]
  rw [hM t (by omega), Option.bind_some, hM s (by omega), Option.bind_some, hG, Option.bind_some, if_pos (by simp), if_neg (by decide), eq_text]
  have hne : (decide (s.data.toList = t.data.toList) != decide (s.data.toList = t.data.toList)) = false := by simp
  rw [hne, whisklaw14_GlobPlain.j0, if_neg (by decide), glob_Magic.f, if_pos hso, Option.bind_some]
  cases hodd : (Gl.pieces (Gl.charsOf (p.map rnOf))).any Gl.Piece.odd with
  | true => rfl
  | false =>
    have hpp := plain_pieces _ _ (Nat.le_refl _) hodd
    rw [chars_plain, ← htl] at hpp
    rw [if_neg (by decide), match_f hso (by omega), match_f hso (by omega), hpp, Gl.match_all_lits, Gl.match_all_lits, Option.bind_some, if_pos (by simp), Option.bind_some, eq_text]
    simp

end Go.Proofs.Ythbnnlhkcaomlaa.Pure
