/- The pure statement of GlobNot: sets of bytes. -/
import Derived.Test.YthbnnlhkcaomlaaPGlobNotx1
import Derived.Test.YthbnnlhkcaomlaaGlobFacts
namespace Go.Proofs.Ythbnnlhkcaomlaa.Pure
open Go.RowKit Go.Proofs.Ythbnnlhkcaomlaa.PGlobNot Go.Proofs.YthbnnlhkcaomlaaW.PrintWords Go.Proofs.YthbnnlhkcaomlaaW.PrintLast Go.Proofs.Ythbnnlhkcaomlaa

theorem wrap_small {x : Int} (h0 : 0 ≤ x) (h1 : x ≤ 1000) : wrap64 (x + 1) = x + 1 := by unfold wrap64; omega

theorem index_neg (l : List UInt8) (c : UInt8) : decide (Lib.indexByte l c < 0) = !l.contains c := by
  induction l with
  | nil => rfl
  | cons b l ih =>
    have hge := Lib.indexByte_ge l c
    have e : Lib.indexByte (b :: l) c = if b == c then 0 else if Lib.indexByte l c == -1 then -1 else Lib.indexByte l c + 1 := rfl
    rw [List.contains_cons, Bool.not_or, ← ih, e]
    by_cases hb : b = c
    · subst hb; simp
    · have hb' : ¬ c = b := fun e => hb e.symm
      rw [if_neg (by simpa using hb)]
      split
      · rename_i h
        have h := beq_iff_eq.1 h
        simp [h, hb']
      · rename_i h
        have h : ¬ Lib.indexByte l c = -1 := fun e => h (by simp [e])
        simp only [show (c == b) = false from by simpa using hb', Bool.not_false, Bool.true_and]
        rw [decide_eq_decide]; omega

theorem index_pos (l : List UInt8) (c : UInt8) : decide (Lib.indexByte l c ≥ 0) = l.contains c := by
  have h := index_neg l c
  cases hc : l.contains c with
  | true => rw [hc] at h; simp at h ⊢; omega
  | false => rw [hc] at h; simp at h ⊢; omega

theorem match_f {l : List S33} {s : ByteArray} (h1 : sumOk l) (h2 : s.size ≤ 1099511627776) : glob_Match.f l s = some (Gl.matchP (Gl.pieces (Gl.charsOf (l.map rnOf))) s.data.toList) := if_pos ⟨h1, h2⟩

theorem str_one (n : Nat) : (strOfNums [(n : Int)]).data.toList = [n.toUInt8] := by
  unfold strOfNums
  simp
theorem str_size (n : Nat) : (strOfNums [(n : Int)]).size = 1 := by
  rw [Lib.size_eq, str_one n]; rfl
theorem sum_small {l : List S33} {k : Nat} (h : (Gl.charsOf (l.map rnOf)).length = k) (hk : k ≤ 1099511627776) : sumOk l := by
  unfold sumOk; omega

/-- One byte of the loop. -/
theorem byte_round (t : ByteArray) (ht : t.data.toList ≠ []) (hs : t.size ≤ 8) (hok : ∀ b ∈ t.data.toList, Gl.okB b = true) (k : Nat) (n : Nat) (hn : n < 256) :
    whisklaw14_GlobNot.l1 (k + 1) t (n : Int) = whisklaw14_GlobNot.l1 k t ((n + 1 : Nat) : Int) := by
  have e0 : ((n : Int)) % 256 = n := by omega
  have hst := str_one n
  have hss := str_size n
  have hl := Gl.set_law t.data.toList ht hok n.toUInt8
  have hz : t.data.toList.length = t.size := (Lib.size_eq t).symm
  rw [whisklaw14_GlobNot.l1, if_pos (by omega), Option.bind_some, e0]
  simp only [strings_IndexByte.f, Option.bind_some, whisklaw14_bare.f, whisklaw14_three.f]
  have c1 : Gl.charsOf (List.map rnOf [{ f0 := { data := #[91] } ++ t ++ { data := #[93] }, f1 := false, f2 := false }]) = (91, false) :: (Gl.chq false t.data.toList ++ [(93, false)]) := by
    simp [Gl.charsOf, Gl.chOf, rnOf, Gl.chq]
  have c2 : Gl.charsOf (List.map rnOf [{ f0 := { data := #[91, 33] } ++ t ++ { data := #[93] }, f1 := false, f2 := false }]) = (91, false) :: (33, false) :: (Gl.chq false t.data.toList ++ [(93, false)]) := by
    simp [Gl.charsOf, Gl.chOf, rnOf, Gl.chq]
  have c3 : Gl.charsOf (List.map rnOf [{ f0 := { data := #[91, 94] } ++ t ++ { data := #[93] }, f1 := false, f2 := false }]) = (91, false) :: (94, false) :: (Gl.chq false t.data.toList ++ [(93, false)]) := by
    simp [Gl.charsOf, Gl.chOf, rnOf, Gl.chq]
  have c4 : Gl.charsOf (List.map rnOf [{ f0 := { data := #[91] }, f1 := false, f2 := false }, { f0 := t, f1 := true, f2 := false }, { f0 := { data := #[93] }, f1 := false, f2 := false }]) = (91, false) :: (Gl.chq true t.data.toList ++ [(93, false)]) := by
    simp [Gl.charsOf, Gl.chOf, rnOf, Gl.chq]
  have hc : ∀ q, (Gl.chq q t.data.toList).length = t.size := fun q => by simp [Gl.chq]
  have hi : decide (Lib.indexByte t.data.toList ((n : Int)).toNat.toUInt8 ≥ 0) = t.data.toList.contains n.toUInt8 := index_pos _ _
  rw [if_pos (by omega), if_pos (by rw [ByteArray.size_append]; show 1 + t.size + 1 ≤ _; omega), match_f (sum_small (k := t.size + 2) (by rw [c1]; simp [hc]) (by omega)) (by omega), Option.bind_some, c1, hst, (hl false).1, hi,
    if_neg (by simp), if_pos (by omega), if_pos (by rw [ByteArray.size_append]; show 2 + t.size + 1 ≤ _; omega), match_f (sum_small (k := t.size + 3) (by rw [c2]; simp [hc]) (by omega)) (by omega), Option.bind_some, c2, hst, (hl false).2.1, if_neg (by simp),
    if_pos (by rw [ByteArray.size_append]; show 2 + t.size + 1 ≤ _; omega), match_f (sum_small (k := t.size + 3) (by rw [c3]; simp [hc]) (by omega)) (by omega), Option.bind_some, c3, hst, (hl false).2.2, if_neg (by simp),
    match_f (sum_small (k := t.size + 2) (by rw [c4]; simp [hc]) (by omega)) (by omega), Option.bind_some, c4, hst, (hl true).1, if_neg (by simp), wrap_small (by omega) (by omega)]
  rfl

theorem bytes_all (t : ByteArray) (ht : t.data.toList ≠ []) (hs : t.size ≤ 8) (hok : ∀ b ∈ t.data.toList, Gl.okB b = true) : ∀ (j n : Nat), n + j = 256 → whisklaw14_GlobNot.l1 (j + 1) t (n : Int) = some true := by
  intro j
  induction j with
  | zero =>
    intro n hn
    rw [whisklaw14_GlobNot.l1, if_neg (by omega)]
  | succ j ih =>
    intro n hn
    rw [byte_round t ht hs hok (j + 1) n (by omega)]
    exact ih (n + 1) (by omega)

/-- The set's bytes are gathered. -/
theorem gather (a : ByteArray) : ∀ (j i : Nat) (t : ByteArray), i + j = 8 → i ≤ a.size → t.size ≤ i → (∀ b ∈ t.data.toList, Gl.okB b = true) → ∃ k, whisklaw14_GlobNot.l0 k a t (i : Int) = some true := by
  have stop : ∀ (i : Nat) (t : ByteArray), t.size ≤ 8 → (∀ b ∈ t.data.toList, Gl.okB b = true) → ∃ k, whisklaw14_GlobNot.j1 k a t (i : Int) false = some true := by
    intro i t hs hok
    refine ⟨258, ?_⟩
    rw [whisklaw14_GlobNot.j1, if_neg (by decide)]
    by_cases ht : t.data.toList = []
    · rw [if_pos (by rw [Lib.toList_data]; exact ht)]
    · rw [if_neg (by rw [Lib.toList_data]; exact ht)]
      exact bytes_all t ht hs hok 256 0 rfl
  intro j
  induction j with
  | zero =>
    intro i t hi hia hs hok
    obtain ⟨k, hk⟩ := stop i t (by omega) hok
    refine ⟨k + 1, ?_⟩
    rw [whisklaw14_GlobNot.l0]
    split
    · rw [show decide (((i : Nat) : Int) < 8) = false from by simp; omega]; exact hk
    · exact hk
  | succ j ih =>
    intro i t hi hia hs hok
    by_cases hlt : i < a.size
    · have hb : bt a (i : Int) = (a[i].toNat : Int) := by
        have := bt_at a (i : Int) (by simpa using hlt)
        rw [← this]; rfl
      have hsz : (a.extract i (i + 1)).data.toList = [a[i]] := by
        have := Lib.extract_toList a i (i + 1)
        rw [Lib.toList_data] at this
        rw [this]
        have hd : a.data.toList.drop i = a[i] :: a.data.toList.drop (i + 1) := List.drop_eq_getElem_cons (by simpa using hlt)
        rw [hd]; simp
      have hs1 : (a.extract i (i + 1)).size = 1 := by rw [Lib.size_eq, hsz]; rfl
      have ew : wrap64 ((i : Int) + 1) = ((i + 1 : Nat) : Int) := wrap_small (by omega) (by omega)
      have hidx : decide (Lib.indexByte [93, 91, 33, 94, 45] a[i] < 0) = Gl.okB a[i] := index_neg _ _
      cases hk : Gl.okB a[i] with
      | true =>
        obtain ⟨k, h⟩ := ih (i + 1) (t ++ a.extract i (i + 1)) (by omega) (by omega) (by rw [ByteArray.size_append, hs1]; omega) (by
          intro b hb
          rw [ByteArray.data_append, Array.toList_append, hsz, List.mem_append, List.mem_singleton] at hb
          rcases hb with hb | rfl
          · exact hok b hb
          · exact hk)
        refine ⟨k + 2, ?_⟩
        rw [hk] at hidx
        rw [whisklaw14_GlobNot.l0, if_pos (by omega), show decide (((i : Nat) : Int) < 8) = true from by simp; omega, whisklaw14_GlobNot.j1, if_pos rfl, if_pos (by omega), if_pos (by omega), strings_IndexByte.f, Option.bind_some, hb]
        rw [if_pos (by simpa using hidx), ew, if_pos (by omega), if_pos (by omega)]
        rw [if_pos (by show t.size + (a.extract i (i + 1)).size ≤ _; rw [hs1]; omega)]
        exact h
      | false =>
        obtain ⟨k, h⟩ := ih (i + 1) t (by omega) (by omega) (by omega) hok
        refine ⟨k + 2, ?_⟩
        rw [hk] at hidx
        rw [whisklaw14_GlobNot.l0, if_pos (by omega), show decide (((i : Nat) : Int) < 8) = true from by simp; omega, whisklaw14_GlobNot.j1, if_pos rfl, if_pos (by omega), if_pos (by omega), strings_IndexByte.f, Option.bind_some, hb]
        rw [if_neg (by simpa using hidx), ew]
        exact h
    · obtain ⟨k, hk⟩ := stop i t (by omega) hok
      refine ⟨k + 1, ?_⟩
      rw [whisklaw14_GlobNot.l0, if_neg (by omega)]
      exact hk

theorem GlobNot : whisklaw14_GlobNot.Pure := by
  intro a0 _
  obtain ⟨k, h⟩ := gather a0 8 0 ⟨#[]⟩ rfl (Nat.zero_le _) (Nat.le_refl _) (by simp)
  refine ⟨k, ?_⟩
  rw [whisklaw14_GlobNot.f, whisklaw14_works.f, Option.bind_some, if_pos rfl]
  exact h

end Go.Proofs.Ythbnnlhkcaomlaa.Pure
