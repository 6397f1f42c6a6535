/- The pure statement of GlobRuns: how characters are put into runs changes nothing. -/
import Derived.Test.YthbnnlhkcaomlaaPGlobRunsx
import Derived.Test.YthbnnlhkcaomlaaGlobFacts2
namespace Go.Proofs.Ythbnnlhkcaomlaa.Pure
open Go.RowKit Go.Proofs.Ythbnnlhkcaomlaa.PGlobRuns Go.Proofs.YthbnnlhkcaomlaaW.PrintWords Go.Proofs.YthbnnlhkcaomlaaW.PrintLast Go.Proofs.YthbnnlhkcaomlaaW.PrintMore Go.Proofs.Ythbnnlhkcaomlaa

theorem mn_le {a b : Int} : mn a b ≤ a ∧ mn a b ≤ b := by unfold mn; split <;> omega
theorem mn_ge {a b : Int} (h : 0 ≤ a) (h' : 0 ≤ b) : 0 ≤ mn a b := by unfold mn; split <;> omega
theorem cut_size (a : ByteArray) (n : Int) : (a.extract 0 (mn (a.size : Int) n).toNat).size ≤ n.toNat := by
  rw [ByteArray.size_extract]
  have := (mn_le (a := (a.size : Int)) (b := n)).2
  omega
theorem match_f {l : List S33} {s : ByteArray} (h1 : sumOk l) (h2 : s.size ≤ 1099511627776) : glob_Match.f l s = some (Gl.matchP (Gl.pieces (Gl.charsOf (l.map rnOf))) s.data.toList) := if_pos ⟨h1, h2⟩

theorem wrap_sub {l m : Int} (h0 : 0 ≤ m) (h1 : m ≤ l) (h2 : l ≤ 14) : wrap64 (l - m) = l - m := by unfold wrap64; omega
theorem wrap_succ {i : Nat} (h : i ≤ 1000) : wrap64 ((i : Int) + 1) = ((i + 1 : Nat) : Int) := by unfold wrap64; omega

theorem cut_arith {C : Nat} {M left : Int} (h0 : 0 ≤ M) (h1 : M ≤ left) (hc : C + left.toNat ≤ 14) : C + M.toNat + (left - M).toNat ≤ 14 := by omega
theorem cut_chars (acc : List S33) (T : ByteArray) (q s : Bool) : (Gl.charsOf ((acc ++ [(⟨T, q, s⟩ : S33)]).map rnOf)).length = (Gl.charsOf (acc.map rnOf)).length + T.size := by
  rw [List.map_append, Gl.charsOf, List.flatMap_append, List.length_append, ← Gl.charsOf]
  congr 1
  simp [Gl.chOf, rnOf]

/-- The cut pattern: fourteen characters at most, fourteen runs at most. -/
theorem cut_ok (x : List S33) : ∀ (j i : Nat) (left : Int) (acc : List S33), i + j = 14 → 0 ≤ left → left ≤ 14 → acc.length ≤ i → (Gl.charsOf (acc.map rnOf)).length + left.toNat ≤ 14 →
    ∃ k r, whisklaw14_cut.l0 k x left acc (i : Int) = some r ∧ (Gl.charsOf (r.map rnOf)).length ≤ 14 ∧ r.length ≤ 14 := by
  intro j
  induction j with
  | zero =>
    intro i left acc hi _ _ hl hc
    refine ⟨1, acc, ?_, by omega, by omega⟩
    rw [whisklaw14_cut.l0]
    split
    · rw [if_neg (by omega)]
    · rfl
  | succ j ih =>
    intro i left acc hi h0 h14 hl hc
    by_cases hx : (i : Int) < (x.length : Int)
    · obtain ⟨X, hX⟩ : ∃ X, rd_T33 x (i : Int) = X := ⟨_, rfl⟩
      have hm := mn_le (a := (X.f0.size : Int)) (b := left)
      have hg := mn_ge (a := (X.f0.size : Int)) (b := left) (by omega) h0
      obtain ⟨M, hM⟩ : ∃ M, mn (X.f0.size : Int) left = M := ⟨_, rfl⟩
      rw [hM] at hm hg
      obtain ⟨T, hT⟩ : ∃ T, X.f0.extract 0 M.toNat = T := ⟨_, rfl⟩
      have hs : T.size = M.toNat := by rw [← hT, ByteArray.size_extract]; omega
      have ew : wrap64 (left - (T.size : Int)) = left - M := by rw [hs, Int.toNat_of_nonneg hg]; exact wrap_sub hg hm.2 h14
      have ei : wrap64 ((i : Int) + 1) = ((i + 1 : Nat) : Int) := wrap_succ (by clear hs hm hg hc hx; omega)
      have hfin : (Gl.charsOf ((acc ++ [(⟨T, X.f1, X.f2⟩ : S33)]).map rnOf)).length + (left - M).toNat ≤ 14 := by
        rw [cut_chars, hs]
        exact cut_arith hg hm.2 hc
      have hl2 : (acc ++ [(⟨T, X.f1, X.f2⟩ : S33)]).length ≤ i + 1 := by rw [List.length_append]; exact Nat.succ_le_succ hl
      have b1 : (0 : Int) ≤ left - M := Int.sub_nonneg_of_le hm.2
      have b2 : left - M ≤ 14 := Int.le_trans (Int.sub_le_self left hg) h14
      have b3 : (i + 1) + j = 14 := by clear hfin hl2 hc hl hs hm; omega
      have b4 : (i : Int) < 14 := by clear hfin hl2 hc hl hs hm; omega
      have b5 : acc.length < 5864062014805 := Nat.lt_of_le_of_lt hl (by clear hfin hl2 hc hl hs hm; omega)
      obtain ⟨k, r, hk, h1, h2⟩ := ih (i + 1) (left - M) (acc ++ [(⟨T, X.f1, X.f2⟩ : S33)]) b3 b1 b2 hl2 hfin
      refine ⟨k + 1, r, ?_, h1, h2⟩
      rw [whisklaw14_cut.l0, if_pos hx, if_pos b4, if_pos (Int.natCast_nonneg i), hX, hM, if_pos hg, if_pos hm.1, if_pos b5, hT, ew, ei]
      exact hk
    · refine ⟨1, acc, ?_, by omega, by omega⟩
      rw [whisklaw14_cut.l0, if_neg hx]

theorem cut_f (x : List S33) : ∃ k r, whisklaw14_cut.f k x = some r ∧ (Gl.charsOf (r.map rnOf)).length ≤ 14 ∧ r.length ≤ 14 :=
  cut_ok x 14 0 14 [] rfl (by decide) (by decide) (Nat.le_refl _) (by decide)

theorem plain_chars (l : List Gl.Rn) : Gl.plainL l = (Gl.charsOf l).map (·.1) := by
  induction l with
  | nil => rfl
  | cons r l ih =>
    show r.t.data.toList ++ Gl.plainL l = (Gl.chOf r ++ Gl.charsOf l).map (·.1)
    rw [List.map_append, ← ih, Gl.chOf, List.map_map]
    congr 1
    exact (List.map_id _).symm

/-- What two patterns of the same characters answer. -/
theorem same_ends (p q : List S33) (s : ByteArray) (hs : s.size ≤ 100) (hp : (Gl.charsOf (p.map rnOf)).length ≤ 14) (hq : Gl.charsOf (q.map rnOf) = Gl.charsOf (p.map rnOf)) (k : Nat) (n : Int) (hn : ¬ n < (p.length : Int)) :
    whisklaw14_GlobRuns.l0 (k + 1) p s q n = some true := by
  have h1 : sumOk p := Nat.le_trans hp (by decide)
  have h2 : sumOk q := by unfold sumOk; rw [hq]; exact h1
  have hs' : s.size ≤ 1099511627776 := Nat.le_trans hs (by decide)
  rw [whisklaw14_GlobRuns.l0, if_neg hn, match_f h1 hs', match_f h2 hs', hq, Option.bind_some, Option.bind_some, if_pos (by simp), glob_Magic.f, glob_Magic.f, if_pos h1, if_pos h2, hq, Option.bind_some, Option.bind_some, if_pos (by simp),
    glob_Plain.f, glob_Plain.f, if_pos h1, if_pos h2, plain_chars, plain_chars, hq, Option.bind_some, Option.bind_some]
  simp

theorem rd_at (p : List S33) {i : Nat} {x : S33} (h : p[i]? = some x) : rd_T33 p (i : Int) = x := by
  unfold rd_T33
  rw [show ((i : Int)).toNat = i from rfl, List.getD_eq_getElem?_getD, h]
  rfl

theorem chars_take (p : List S33) {i : Nat} {x : S33} (h : p[i]? = some x) : Gl.charsOf ((p.take (i + 1)).map rnOf) = Gl.charsOf ((p.take i).map rnOf) ++ Gl.chOf (rnOf x) := by
  rw [List.take_add_one, h]
  simp [Gl.charsOf]

/-- One run's characters. -/
theorem one_run (p : List S33) (s : ByteArray) (i : Nat) (x : S33) (hx : p[i]? = some x) (hpl : p.length ≤ 14) (hxs : x.f0.size ≤ 14) (hK : ∀ q, q.length ≤ 28 * (i + 1) → Gl.charsOf (q.map rnOf) = Gl.charsOf ((p.take (i + 1)).map rnOf) → ∃ k, whisklaw14_GlobRuns.l0 k p s q ((i + 1 : Nat) : Int) = some true) :
    ∀ (d j : Nat) (q : List S33), j + d = x.f0.size → q.length ≤ 28 * i + 2 * j → Gl.charsOf (q.map rnOf) = Gl.charsOf ((p.take i).map rnOf) ++ (Gl.chOf (rnOf x)).take j → ∃ k, whisklaw14_GlobRuns.l1 k p s q (i : Int) (j : Int) = some true := by
  have hil : i < p.length := (List.getElem?_eq_some_iff.1 hx).1
  have hrd := rd_at p hx
  have hi0 : (0 : Int) ≤ (i : Int) := Int.natCast_nonneg i
  have hi1 : (i : Int) < (p.length : Int) := Int.ofNat_lt.2 hil
  intro d
  induction d with
  | zero =>
    intro j q hj hl hc
    rw [Nat.add_zero] at hj
    have hfull : (Gl.chOf (rnOf x)).take j = Gl.chOf (rnOf x) := List.take_of_length_le (by simp [Gl.chOf, rnOf]; omega)
    rw [hfull, ← chars_take p hx] at hc
    obtain ⟨k, hk⟩ := hK q (by omega) hc
    refine ⟨k + 1, ?_⟩
    rw [whisklaw14_GlobRuns.l1, if_pos hi0, if_pos hi1, hrd, if_neg (by omega), wrap_succ (by omega)]
    exact hk
  | succ d ih =>
    intro j q hj hl hc
    have hjl : j < x.f0.size := by omega
    have ej : wrap64 ((j : Int) + 1) = ((j + 1 : Nat) : Int) := wrap_succ (by omega)
    have hsz : (x.f0.extract j (j + 1)).data.toList = [x.f0[j]] := by
      have := Lib.extract_toList x.f0 j (j + 1)
      rw [Lib.toList_data] at this
      rw [this]
      have hd : x.f0.data.toList.drop j = x.f0[j] :: x.f0.data.toList.drop (j + 1) := List.drop_eq_getElem_cons (by simpa using hjl)
      rw [hd]; simp
    obtain ⟨k, hk⟩ := ih (j + 1) (q ++ [(⟨x.f0.extract j (j + 1), x.f1, !x.f2⟩ : S33), (⟨(⟨#[]⟩ : ByteArray), true, false⟩ : S33)]) (by omega) (by simp; omega) (by
      rw [List.map_append, Gl.charsOf, List.flatMap_append, ← Gl.charsOf, hc, List.append_assoc, Gl.chOf_take_succ (rnOf x) (show j < (rnOf x).t.size from hjl)]
      congr 2
      show ((x.f0.extract j (j + 1)).data.toList.map fun b => (b, x.f1)) ++ ([] ++ []) = [(x.f0[j], x.f1)]
      rw [hsz]; rfl)
    refine ⟨k + 1, ?_⟩
    rw [whisklaw14_GlobRuns.l1, if_pos hi0, if_pos hi1, hrd, if_pos (by omega), if_pos (Int.natCast_nonneg j), ej, if_pos (by omega), if_pos (by omega), Option.bind_some, if_pos (by simp; omega)]
    exact hk

theorem all_runs (p : List S33) (s : ByteArray) (hs : s.size ≤ 100) (hp : (Gl.charsOf (p.map rnOf)).length ≤ 14) (hpl : p.length ≤ 14) : ∀ (d i : Nat) (q : List S33), i + d = p.length → q.length ≤ 28 * i → Gl.charsOf (q.map rnOf) = Gl.charsOf ((p.take i).map rnOf) →
    ∃ k, whisklaw14_GlobRuns.l0 k p s q (i : Int) = some true := by
  intro d
  induction d with
  | zero =>
    intro i q hi _ hc
    rw [Nat.add_zero] at hi
    subst hi
    rw [List.take_length] at hc
    exact ⟨1, same_ends p q s hs hp hc 0 _ (by omega)⟩
  | succ d ih =>
    intro i q hi hl hc
    have hil : i < p.length := by omega
    obtain ⟨x, hx⟩ : ∃ x, p[i]? = some x := ⟨_, List.getElem?_eq_getElem hil⟩
    have hxs : x.f0.size ≤ 14 := by
      have h1 := chars_take p hx
      have h2 := congrArg List.length h1
      rw [List.length_append] at h2
      have h3 : (Gl.chOf (rnOf x)).length = x.f0.size := by simp [Gl.chOf, rnOf]
      have h4 : (Gl.charsOf ((p.take (i + 1)).map rnOf)).length ≤ (Gl.charsOf (p.map rnOf)).length := by
        rw [List.map_take]; exact Gl.charsOf_take_le _ _
      rw [h3] at h2
      clear hc ih hl
      omega
    obtain ⟨k, hk⟩ := one_run p s i x hx hpl hxs (fun q' hl' hc' => ih (i + 1) q' (by omega) hl' hc') x.f0.size 0 q (Nat.zero_add _) (by omega) (by rw [List.take_zero, List.append_nil]; exact hc)
    refine ⟨k + 1, ?_⟩
    rw [whisklaw14_GlobRuns.l0, if_pos (by omega)]
    exact hk

theorem GlobRuns (l0 : List S33) (a1 : ByteArray) (_ : a1.size ≤ 140737488351232) : ∃ k, whisklaw14_GlobRuns.f k l0 a1 = some true := by
  obtain ⟨k, p, hk, hp, hpl⟩ := cut_f l0
  have z := cut_size a1 12
  obtain ⟨k', hk'⟩ := all_runs p (a1.extract 0 (mn (a1.size : Int) 12).toNat) (Nat.le_trans z (by decide)) hp hpl p.length 0 [] (Nat.zero_add _) (Nat.zero_le _) rfl
  have up : ∀ (n : Nat), whisklaw14_cut.f (k + n) l0 = some p := by
    intro n
    induction n with
    | zero => exact hk
    | succ n ih => exact whisklaw14_cut.mono l0 (k + n) p ih
  have up' : ∀ (n : Nat), whisklaw14_GlobRuns.l0 (k' + n) p (a1.extract 0 (mn (a1.size : Int) 12).toNat) [] 0 = some true := by
    intro n
    induction n with
    | zero => exact hk'
    | succ n ih => exact (whisklaw14_GlobRuns.mono_l (k' + n)).1 _ _ _ _ _ ih
  refine ⟨k + k', ?_⟩
  rw [whisklaw14_GlobRuns.f, whisklaw14_works.f, Option.bind_some, if_pos rfl, up k', Option.bind_some, if_pos (mn_ge (by omega) (by omega)), if_pos mn_le.1, Nat.add_comm]
  exact up' k

end Go.Proofs.Ythbnnlhkcaomlaa.Pure
