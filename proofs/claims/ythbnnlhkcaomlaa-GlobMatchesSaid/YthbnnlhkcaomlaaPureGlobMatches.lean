/- The pure statement of GlobMatches: the program's answers are the document's. -/
import Derived.Test.YthbnnlhkcaomlaaPGlobMatchesx
import Derived.Test.YthbnnlhkcaomlaaGlobFacts2
namespace Go.Proofs.Ythbnnlhkcaomlaa.Pure
open Go.RowKit Go.Proofs.Ythbnnlhkcaomlaa.PGlobMatches Go.Proofs.YthbnnlhkcaomlaaW.PrintWords Go.Proofs.YthbnnlhkcaomlaaW.PrintLast Go.Proofs.YthbnnlhkcaomlaaW.PrintMore Go.Proofs.Ythbnnlhkcaomlaa

theorem mn_le {a b : Int} : mn a b ≤ a ∧ mn a b ≤ b := by unfold mn; split <;> omega
theorem mn_ge {a b : Int} (h : 0 ≤ a) (h' : 0 ≤ b) : 0 ≤ mn a b := by unfold mn; split <;> omega
theorem cut_size (a : ByteArray) (n : Int) : (a.extract 0 (mn (a.size : Int) n).toNat).size ≤ n.toNat := by
  rw [ByteArray.size_extract]
  have := (mn_le (a := (a.size : Int)) (b := n)).2
  omega
theorem match_f {l : List S33} {s : ByteArray} (h1 : sumOk l) (h2 : s.size ≤ 1099511627776) : glob_Match.f l s = some (Gl.matchP (Gl.pieces (Gl.charsOf (l.map rnOf))) s.data.toList) := if_pos ⟨h1, h2⟩

theorem wrap_sub {l m : Int} (h0 : 0 ≤ m) (h1 : m ≤ l) (h2 : l ≤ 14) : wrap64 (l - m) = l - m := by unfold wrap64; omega
theorem wrap_succ {i : Nat} (h : i ≤ 1000) : wrap64 ((i : Int) + 1) = ((i + 1 : Nat) : Int) := by unfold wrap64; omega

theorem cut_arith {C : Nat} {M left : Int} (h0 : 0 ≤ M) (h1 : M ≤ left) (hc : C + left.toNat ≤ 14) : C + M.toNat + (left - M).toNat ≤ 14 := by omega
theorem cut_chars (acc : List S33) (T : ByteArray) (q s : Bool) : (Gl.charsOf ((acc ++ [(⟨T, q, s⟩ : S33)]).map rnOf)).length = (Gl.charsOf (acc.map rnOf)).length + T.size := by
  rw [List.map_append, Gl.charsOf, List.flatMap_append, List.length_append, ← Gl.charsOf]
  congr 1
  simp [Gl.chOf, rnOf]

/-- The cut pattern: fourteen characters at most, fourteen runs at most. -/
theorem cut_ok (x : List S33) : ∀ (j i : Nat) (left : Int) (acc : List S33), i + j = 14 → 0 ≤ left → left ≤ 14 → acc.length ≤ i → (Gl.charsOf (acc.map rnOf)).length + left.toNat ≤ 14 →
    ∃ k r, whisklaw14_cut.l0 k x left acc (i : Int) = some r ∧ (Gl.charsOf (r.map rnOf)).length ≤ 14 ∧ r.length ≤ 14 := by
  intro j
  induction j with
  | zero =>
    intro i left acc hi _ _ hl hc
    refine ⟨1, acc, ?_, by omega, by omega⟩
    rw [whisklaw14_cut.l0]
    split
    · rw [if_neg (by omega)]
    · rfl
  | succ j ih =>
    intro i left acc hi h0 h14 hl hc
    by_cases hx : (i : Int) < (x.length : Int)
    · obtain ⟨X, hX⟩ : ∃ X, rd_T33 x (i : Int) = X := ⟨_, rfl⟩
      have hm := mn_le (a := (X.f0.size : Int)) (b := left)
      have hg := mn_ge (a := (X.f0.size : Int)) (b := left) (by omega) h0
      obtain ⟨M, hM⟩ : ∃ M, mn (X.f0.size : Int) left = M := ⟨_, rfl⟩
      rw [hM] at hm hg
      obtain ⟨T, hT⟩ : ∃ T, X.f0.extract 0 M.toNat = T := ⟨_, rfl⟩
      have hs : T.size = M.toNat := by rw [← hT, ByteArray.size_extract]; omega
      have ew : wrap64 (left - (T.size : Int)) = left - M := by rw [hs, Int.toNat_of_nonneg hg]; exact wrap_sub hg hm.2 h14
      have ei : wrap64 ((i : Int) + 1) = ((i + 1 : Nat) : Int) := wrap_succ (by clear hs hm hg hc hx; omega)
      have hfin : (Gl.charsOf ((acc ++ [(⟨T, X.f1, X.f2⟩ : S33)]).map rnOf)).length + (left - M).toNat ≤ 14 := by
        rw [cut_chars, hs]
        exact cut_arith hg hm.2 hc
      have hl2 : (acc ++ [(⟨T, X.f1, X.f2⟩ : S33)]).length ≤ i + 1 := by rw [List.length_append]; exact Nat.succ_le_succ hl
      have b1 : (0 : Int) ≤ left - M := Int.sub_nonneg_of_le hm.2
      have b2 : left - M ≤ 14 := Int.le_trans (Int.sub_le_self left hg) h14
      have b3 : (i + 1) + j = 14 := by clear hfin hl2 hc hl hs hm; omega
      have b4 : (i : Int) < 14 := by clear hfin hl2 hc hl hs hm; omega
      have b5 : acc.length < 5864062014805 := Nat.lt_of_le_of_lt hl (by clear hfin hl2 hc hl hs hm; omega)
      obtain ⟨k, r, hk, h1, h2⟩ := ih (i + 1) (left - M) (acc ++ [(⟨T, X.f1, X.f2⟩ : S33)]) b3 b1 b2 hl2 hfin
      refine ⟨k + 1, r, ?_, h1, h2⟩
      rw [whisklaw14_cut.l0, if_pos hx, if_pos b4, if_pos (Int.natCast_nonneg i), hX, hM, if_pos hg, if_pos hm.1, if_pos b5, hT, ew, ei]
      exact hk
    · refine ⟨1, acc, ?_, by omega, by omega⟩
      rw [whisklaw14_cut.l0, if_neg hx]

theorem cut_f (x : List S33) : ∃ k r, whisklaw14_cut.f k x = some r ∧ (Gl.charsOf (r.map rnOf)).length ≤ 14 ∧ r.length ≤ 14 :=
  cut_ok x 14 0 14 [] rfl (by decide) (by decide) (Nat.le_refl _) (by decide)

/-! ### the document's characters, sets and answers, as the plain law's -/
def c54 (c : Gl.Ch) : S54 := ⟨(c.1.toNat : Int), c.2⟩
theorem rd54 (cs : List Gl.Ch) {i : Nat} {c : Gl.Ch} (h : cs[i]? = some c) : rd_T54 (cs.map c54) (i : Int) = c54 c := by
  unfold rd_T54
  rw [show ((i : Int)).toNat = i from rfl, List.getD_eq_getElem?_getD, List.getElem?_map, h]
  rfl
theorem is_f (c : Gl.Ch) (b : UInt8) : whiskref14_is.f (c54 c).f0 (c54 c).f1 (b.toNat : Int) = some (Gl.isC c b) := by
  obtain ⟨x, q⟩ := c
  cases q with
  | true => rfl
  | false =>
    show some (((x.toNat : Int)) == (b.toNat : Int)) = some (Gl.isC (x, false) b)
    congr 1
    simp only [Gl.isC, Bool.not_false, Bool.true_and]
    exact (Gl.u8_eq x b).symm

theorem rd33 (p : List S33) {i : Nat} {x : S33} (h : p[i]? = some x) : rd_T33 p (i : Int) = x := by
  unfold rd_T33
  rw [show ((i : Int)).toNat = i from rfl, List.getD_eq_getElem?_getD, h]
  rfl
theorem chars_take (p : List S33) {i : Nat} {x : S33} (h : p[i]? = some x) : Gl.charsOf ((p.take (i + 1)).map rnOf) = Gl.charsOf ((p.take i).map rnOf) ++ Gl.chOf (rnOf x) := by
  rw [List.take_add_one, h]
  simp [Gl.charsOf]
theorem bt_nat (s : ByteArray) {j : Nat} (h : j < s.size) : bt s (j : Int) = (s[j].toNat : Int) := by
  have := bt_at s (j : Int) (by simpa using h)
  rw [← this]; rfl

/-- One run's characters. -/
theorem ref_run (p : List S33) (i : Nat) (x : S33) (hx : p[i]? = some x) (hpl : p.length ≤ 14) (hxs : x.f0.size ≤ 14) {r : List S54} (hK : ∃ k, whiskref14_Chars.l0 k p ((Gl.charsOf ((p.take (i + 1)).map rnOf)).map c54) ((i + 1 : Nat) : Int) = some r)
    (hsm : (Gl.charsOf ((p.take i).map rnOf)).length ≤ 14) :
    ∀ (d j : Nat), j + d = x.f0.size → ∃ k, whiskref14_Chars.l1 k p ((Gl.charsOf ((p.take i).map rnOf) ++ (Gl.chOf (rnOf x)).take j).map c54) (i : Int) (j : Int) = some r := by
  have hil : i < p.length := (List.getElem?_eq_some_iff.1 hx).1
  have hrd := rd33 p hx
  have hi0 : (0 : Int) ≤ (i : Int) := Int.natCast_nonneg i
  have hi1 : (i : Int) < (p.length : Int) := Int.ofNat_lt.2 hil
  intro d
  induction d with
  | zero =>
    intro j hj
    rw [Nat.add_zero] at hj
    have hfull : (Gl.chOf (rnOf x)).take j = Gl.chOf (rnOf x) := List.take_of_length_le (by simp [Gl.chOf, rnOf]; omega)
    rw [hfull, ← chars_take p hx]
    obtain ⟨k, hk⟩ := hK
    refine ⟨k + 1, ?_⟩
    rw [whiskref14_Chars.l1, if_pos hi0, if_pos hi1, hrd, if_neg (by omega), wrap_succ (by omega)]
    exact hk
  | succ d ih =>
    intro j hj
    have hjl : j < x.f0.size := by omega
    have ej : wrap64 ((j : Int) + 1) = ((j + 1 : Nat) : Int) := wrap_succ (by omega)
    obtain ⟨k, hk⟩ := ih (j + 1) (by omega)
    rw [Gl.chOf_take_succ (rnOf x) (show j < (rnOf x).t.size from hjl), ← List.append_assoc, List.map_append] at hk
    have hlen : (List.map c54 (Gl.charsOf ((p.take i).map rnOf) ++ (Gl.chOf (rnOf x)).take j)).length < 70368744177664 := by
      rw [List.length_map, List.length_append, List.length_take]
      have := Nat.min_le_left j (Gl.chOf (rnOf x)).length
      exact Nat.lt_of_le_of_lt (Nat.add_le_add hsm (Nat.le_trans this (Nat.le_of_lt hjl))) (by omega)
    refine ⟨k + 1, ?_⟩
    rw [whiskref14_Chars.l1, if_pos hi0, if_pos hi1, hrd, if_pos (by omega), if_pos (Int.natCast_nonneg j), if_pos hlen, bt_nat _ hjl, ej]
    exact hk

theorem ref_chars (p : List S33) (hp : (Gl.charsOf (p.map rnOf)).length ≤ 14) (hpl : p.length ≤ 14) : ∃ k, whiskref14_Chars.f k p = some ((Gl.charsOf (p.map rnOf)).map c54) := by
  have key : ∀ (d i : Nat), i + d = p.length → ∃ k, whiskref14_Chars.l0 k p ((Gl.charsOf ((p.take i).map rnOf)).map c54) (i : Int) = some ((Gl.charsOf (p.map rnOf)).map c54) := by
    intro d
    induction d with
    | zero =>
      intro i hi
      rw [Nat.add_zero] at hi
      subst hi
      refine ⟨1, ?_⟩
      rw [whiskref14_Chars.l0, if_neg (by omega), List.take_length]
    | succ d ih =>
      intro i hi
      have hil : i < p.length := by omega
      obtain ⟨x, hx⟩ : ∃ x, p[i]? = some x := ⟨_, List.getElem?_eq_getElem hil⟩
      have hle : ∀ j, (Gl.charsOf ((p.take j).map rnOf)).length ≤ 14 := fun j => by
        rw [List.map_take]; exact Nat.le_trans (Gl.charsOf_take_le _ _) hp
      have hxs : x.f0.size ≤ 14 := by
        have h2 := congrArg List.length (chars_take p hx)
        rw [List.length_append, show (Gl.chOf (rnOf x)).length = x.f0.size from by simp [Gl.chOf, rnOf]] at h2
        exact Nat.le_trans (Nat.le_add_left _ _) (h2 ▸ hle (i + 1))
      obtain ⟨k, hk⟩ := ref_run p i x hx hpl hxs (ih (i + 1) (by omega)) (hle i) x.f0.size 0 (Nat.zero_add _)
      rw [List.take_zero, List.append_nil] at hk
      refine ⟨k + 1, ?_⟩
      rw [whiskref14_Chars.l0, if_pos (by omega)]
      exact hk
  exact key p.length 0 (Nat.zero_add _)

/-- What the document's set answers. -/
def setAns (cs : List Gl.Ch) (b : UInt8) : Int × Bool := match Gl.setOf cs with
  | none => (0, false)
  | some s => ((s.len : Int), Gl.inBody b s.body != s.neg)

theorem is_at (cs : List Gl.Ch) {i : Nat} {c : Gl.Ch} (h : cs[i]? = some c) (b : UInt8) : whiskref14_is.f (rd_T54 (cs.map c54) (i : Int)).f0 (rd_T54 (cs.map c54) (i : Int)).f1 (b.toNat : Int) = some (Gl.isC c b) := by
  rw [rd54 cs h, is_f]

theorem wrap_add {i n : Nat} (hi : i ≤ 1000) (hn : n ≤ 1000) : wrap64 ((i : Int) + (n : Int)) = ((i + n : Nat) : Int) := by unfold wrap64; omega

/-- The body's bytes. -/
theorem ref_body (cs : List Gl.Ch) (b : UInt8) (neg : Bool) (fr en : Nat) (hfe : fr ≤ en) (he : en < cs.length) (hl : cs.length ≤ 14) :
    ∀ (d i : Nat) (sm : Bool), fr ≤ i → i ≤ en → en - i ≤ d → ∃ k, whiskref14_set.l1 k (cs.map c54) (b.toNat : Int) neg (en : Int) sm (i : Int) = some (((en + 1 : Nat) : Int), (sm || Gl.inBody b (((cs.take en).drop fr).drop (i - fr))) != neg) := by
  have hbl : ((cs.take en).drop fr).length = en - fr := by rw [List.length_drop, List.length_take]; omega
  have hat : ∀ j c, cs[j]? = some c → fr ≤ j → j < en → ((cs.take en).drop fr)[j - fr]? = some c := by
    intro j c hj h1 h2
    rw [List.getElem?_drop, List.getElem?_take, if_pos (by omega), show fr + (j - fr) = j from by omega]; exact hj
  have HBL := Lib.hid hbl
  have HML := Lib.hid (show (cs.map c54).length = cs.length from List.length_map _)
  clear hbl
  intro d
  induction d with
  | zero =>
    intro i sm h1 h2 h3
    have hie : i = en := by omega
    subst hie
    refine ⟨1, ?_⟩
    rw [whiskref14_set.l1, if_neg (by omega), wrap_succ (by omega), List.drop_eq_nil_of_le (by rw [HBL.out]; omega)]
    simp [Gl.inBody]
  | succ d ih =>
    intro i sm h1 h2 h3
    by_cases hie : i = en
    · subst hie
      refine ⟨1, ?_⟩
      rw [whiskref14_set.l1, if_neg (by omega), wrap_succ (by omega), List.drop_eq_nil_of_le (by rw [HBL.out]; omega)]
      simp [Gl.inBody]
    · have hilt : i < en := by omega
      obtain ⟨x, hx⟩ : ∃ x, cs[i]? = some x := ⟨_, List.getElem?_eq_getElem (by omega)⟩
      have hbx := hat i x hx h1 hilt
      have w1 : wrap64 ((i : Int) + 1) = ((i + 1 : Nat) : Int) := wrap_succ (by omega)
      have w2 : wrap64 ((i : Int) + 2) = ((i + 2 : Nat) : Int) := wrap_add (n := 2) (by omega) (by omega)
      have w3 : wrap64 ((i : Int) + 3) = ((i + 3 : Nat) : Int) := wrap_add (n := 3) (by omega) (by omega)
      have eqb : ((b.toNat : Int) == (c54 x).f0) = (b == x.1) := (Gl.u8_eq b x.1).symm
      -- one byte
      have one : (∀ c, i + 2 < en → cs[i + 1]? = some c → Gl.isC c 45 = false) →
          ((sm || (b == x.1)) || Gl.inBody b (((cs.take en).drop fr).drop (i + 1 - fr))) = (sm || Gl.inBody b (((cs.take en).drop fr).drop (i - fr))) := by
        intro hno
        rw [Gl.inBody_one (b := b) hbx (fun dd hdd hd2 => by
          rw [HBL.out] at hdd
          rw [List.getElem?_drop, List.getElem?_take] at hd2
          split at hd2
          · exact hno dd (by omega) (by rw [show fr + (i - fr + 1) = i + 1 from by omega] at hd2; exact hd2)
          · cases hd2), show i + 1 - fr = i - fr + 1 from by omega, Bool.or_assoc]
      obtain ⟨k1, hk1⟩ := ih (i + 1) (sm || (b == x.1)) (by omega) (by omega) (by omega)
      by_cases h2e : i + 2 < en
      · obtain ⟨dd, hdd⟩ : ∃ dd, cs[i + 1]? = some dd := ⟨_, List.getElem?_eq_getElem (by omega)⟩
        obtain ⟨y, hy⟩ : ∃ y, cs[i + 2]? = some y := ⟨_, List.getElem?_eq_getElem (by omega)⟩
        have hd' := hat (i + 1) dd hdd (by omega) (by omega)
        have hy' := hat (i + 2) y hy (by omega) (by omega)
        have h45 : whiskref14_is.f (rd_T54 (cs.map c54) ((i + 1 : Nat) : Int)).f0 (rd_T54 (cs.map c54) ((i + 1 : Nat) : Int)).f1 45 = some (Gl.isC dd 45) := is_at cs hdd 45
        cases hda : Gl.isC dd 45 with
        | true =>
          have three : (sm || ((decide (x.1 ≤ b) && decide (b ≤ y.1)) || Gl.inBody b (((cs.take en).drop fr).drop (i + 3 - fr)))) = (sm || Gl.inBody b (((cs.take en).drop fr).drop (i - fr))) := by
            rw [Gl.inBody_three (b := b) hbx (by rw [show i - fr + 1 = i + 1 - fr from by omega]; exact hd') (by rw [show i - fr + 2 = i + 2 - fr from by omega]; exact hy') hda, show i + 3 - fr = i - fr + 3 from by omega]
          obtain ⟨k, hk⟩ := ih (i + 3) (sm || (decide (x.1 ≤ b) && decide (b ≤ y.1))) (by omega) (by omega) (by omega)
          rw [Bool.or_assoc, three] at hk
          refine ⟨k + 1, ?_⟩
          rw [whiskref14_set.l1, if_pos (by omega), w2, w1, w3, if_pos (by omega), if_pos (by omega), if_pos (by rw [HML.out]; omega), h45, Option.bind_some, hda, if_pos rfl]
          cases sm with
          | true => rw [if_pos rfl]; simpa using hk
          | false =>
            rw [if_neg (by decide), if_pos (by omega), if_pos (by rw [HML.out]; omega), rd54 cs hx, rd54 cs hy]
            by_cases hlo : x.1 ≤ b
            · have hlo' : (b.toNat : Int) ≥ (c54 x).f0 := by have := UInt8.le_iff_toNat_le.1 hlo; show (b.toNat : Int) ≥ (x.1.toNat : Int); omega
              rw [if_pos hlo', if_pos (by omega), if_pos (by rw [HML.out]; omega)]
              have e : decide ((b.toNat : Int) ≤ (c54 y).f0) = decide (b ≤ y.1) := by
                rw [Gl.u8_le]; show decide ((b.toNat : Int) ≤ (y.1.toNat : Int)) = _; rw [decide_eq_decide]; omega
              rw [e]
              rw [decide_eq_true hlo] at hk
              simpa using hk
            · have hlo' : ¬ (b.toNat : Int) ≥ (c54 x).f0 := by
                intro h
                exact hlo (UInt8.le_iff_toNat_le.2 (by have h : (b.toNat : Int) ≥ (x.1.toNat : Int) := h; omega))
              rw [if_neg hlo']
              rw [decide_eq_false hlo] at hk
              simpa using hk
        | false =>
          have hone := one (fun c _ hc => by rw [hdd] at hc; cases hc; exact hda)
          rw [hone] at hk1
          refine ⟨k1 + 1, ?_⟩
          rw [whiskref14_set.l1, if_pos (by omega), w2, w1, w3, if_pos (by omega), if_pos (by omega), if_pos (by rw [HML.out]; omega), h45, Option.bind_some, hda, if_neg (by decide)]
          cases sm with
          | true => rw [if_pos rfl]; simpa using hk1
          | false => rw [if_neg (by decide), if_pos (by omega), if_pos (by rw [HML.out]; omega), rd54 cs hx, eqb]; simpa using hk1
      · have hone := one (fun c h _ => absurd h h2e)
        rw [hone] at hk1
        refine ⟨k1 + 1, ?_⟩
        rw [whiskref14_set.l1, if_pos (by omega), w2, w1, w3, if_neg (by omega)]
        cases sm with
        | true => rw [if_pos rfl]; simpa using hk1
        | false => rw [if_neg (by decide), if_pos (by omega), if_pos (by rw [HML.out]; omega), rd54 cs hx, eqb]; simpa using hk1

def endAns (cs : List Gl.Ch) (b : UInt8) (neg : Bool) (fr x : Nat) : Int × Bool := match Gl.findEnd (cs.drop x) with
  | none => (0, false)
  | some q => (((x + q + 1 : Nat) : Int), Gl.inBody b ((cs.take (x + q)).drop fr) != neg)

theorem ref_end (cs : List Gl.Ch) (b : UInt8) (neg : Bool) (fr : Nat) (hl : cs.length ≤ 14) : ∀ (d x : Nat), cs.length ≤ x + d → fr < x → x ≤ 100 → ∃ k, whiskref14_set.l0 k (cs.map c54) (b.toNat : Int) (fr : Int) neg (x : Int) = some (endAns cs b neg fr x) := by
  have hml : (cs.map c54).length = cs.length := List.length_map _
  have over : ∀ x : Nat, cs.length ≤ x → ∃ k, whiskref14_set.l0 k (cs.map c54) (b.toNat : Int) (fr : Int) neg (x : Int) = some (endAns cs b neg fr x) := by
    intro x hx
    refine ⟨2, ?_⟩
    rw [whiskref14_set.l0, if_neg (by rw [hml]; omega), whiskref14_set.j4, if_pos (by rw [hml]; omega), endAns, List.drop_eq_nil_of_le hx, Gl.findEnd]
  intro d
  induction d with
  | zero => intro x hx _ _; exact over x (by omega)
  | succ d ih =>
    intro x hx hf h100
    by_cases hlt : x < cs.length
    · obtain ⟨c, hc⟩ : ∃ c, cs[x]? = some c := ⟨_, List.getElem?_eq_getElem hlt⟩
      have hdr := Gl.drop_cons hc
      cases h93 : Gl.isC c 93 with
      | true =>
        obtain ⟨k, hk⟩ := ref_body cs b neg fr x (by omega) hlt hl x fr false (Nat.le_refl _) (by omega) (by omega)
        refine ⟨k + 2, ?_⟩
        have h2 : whiskref14_is.f (rd_T54 (cs.map c54) (x : Int)).f0 (rd_T54 (cs.map c54) (x : Int)).f1 93 = some true := (is_at cs hc 93).trans (by rw [h93])
        rw [whiskref14_set.l0, if_pos (by rw [hml]; omega), if_pos (by omega), h2, Option.bind_some, if_pos rfl, whiskref14_set.j4, if_neg (by rw [hml]; omega), hk, endAns, hdr, Gl.findEnd, h93, if_pos rfl, Nat.sub_self, List.drop_zero, Bool.false_or]
        rfl
      | false =>
        obtain ⟨k, hk⟩ := ih (x + 1) (by omega) (by omega) (by omega)
        refine ⟨k + 1, ?_⟩
        have h2 : whiskref14_is.f (rd_T54 (cs.map c54) (x : Int)).f0 (rd_T54 (cs.map c54) (x : Int)).f1 93 = some false := (is_at cs hc 93).trans (by rw [h93])
        rw [whiskref14_set.l0, if_pos (by rw [hml]; omega), if_pos (by omega), h2, Option.bind_some, if_neg (by decide), wrap_succ (by omega), hk, endAns, endAns, hdr, Gl.findEnd, h93, if_neg (by decide)]
        cases Gl.findEnd (cs.drop (x + 1)) with
        | none => rfl
        | some q =>
          simp only [Option.map_some]
          rw [show x + (q + 1) = x + 1 + q from by omega]
    · exact over x (by omega)

theorem setOf_from {c d : Gl.Ch} {r : List Gl.Ch} (hc : Gl.isC c 91 = true) {fr : Nat} (hf : fr = if Gl.isC d 33 || Gl.isC d 94 then 2 else 1) (b : UInt8) :
    setAns (c :: d :: r) b = endAns (c :: d :: r) b (Gl.isC d 33 || Gl.isC d 94) fr (fr + 1) := by
  unfold setAns endAns
  rw [Gl.setOf_at hc hf]
  by_cases hlt : fr + 1 < (c :: d :: r).length
  · rw [if_pos hlt]
    cases Gl.findEnd ((c :: d :: r).drop (fr + 1)) with
    | none => rfl
    | some q =>
      simp only [Option.map_some]
      rw [show q + (fr + 1) = fr + 1 + q from by omega]
  · rw [if_neg hlt, List.drop_eq_nil_of_le (by omega)]
    rfl

theorem ref_set (cs : List Gl.Ch) (b : UInt8) (hl : cs.length ≤ 14) : ∃ k, whiskref14_set.f k (cs.map c54) (b.toNat : Int) = some (setAns cs b) := by
  have hml : (cs.map c54).length = cs.length := List.length_map _
  have key : ∀ (fr : Nat) (neg : Bool), fr ≤ 2 → ∃ k, whiskref14_set.j2 k (cs.map c54) (b.toNat : Int) (fr : Int) neg = some (endAns cs b neg fr (fr + 1)) := by
    intro fr neg hfr
    obtain ⟨k, hk⟩ := ref_end cs b neg fr hl cs.length (fr + 1) (by omega) (by omega) (by omega)
    refine ⟨k + 1, ?_⟩
    rw [whiskref14_set.j2, wrap_succ (by omega)]
    exact hk
  match cs, hl, hml, key with
  | [], _, _, _ => exact ⟨1, rfl⟩
  | c :: rest, hl, hml, key =>
    have h0 : whiskref14_is.f (rd_T54 ((c :: rest).map c54) 0).f0 (rd_T54 ((c :: rest).map c54) 0).f1 91 = some (Gl.isC c 91) := is_f c 91
    cases hc : Gl.isC c 91 with
    | false =>
      refine ⟨1, ?_⟩
      rw [whiskref14_set.f, if_neg (by rw [hml, List.length_cons]; omega), if_pos (by rw [hml, List.length_cons]; omega), h0, hc, Option.bind_some, whiskref14_set.j0, if_pos (by rfl)]
      have : Gl.setOf (c :: rest) = none := by unfold Gl.setOf; simp [hc]
      rw [setAns, this]
    | true =>
      match rest, hl, hml, key, h0 with
      | [], hl, hml, key, h0 =>
        obtain ⟨k, hk⟩ := key 1 false (by decide)
        refine ⟨k + 2, ?_⟩
        rw [whiskref14_set.f, if_neg (by rw [hml, List.length_cons]; omega), if_pos (by rw [hml, List.length_cons]; omega), h0, hc, Option.bind_some, whiskref14_set.j0, if_neg (by decide), if_neg (by rw [hml, List.length_singleton]; decide), whiskref14_set.j1, if_neg (by decide)]
        have e1 : setAns [c] b = (0, false) := by
          have : Gl.setOf [c] = none := by unfold Gl.setOf; simp
          rw [setAns, this]
        have e2 : endAns [c] b false 1 (1 + 1) = (0, false) := rfl
        rw [e1, ← e2]
        exact hk
      | d :: r, hl, hml, key, h0 =>
        have h33 : whiskref14_is.f (rd_T54 ((c :: d :: r).map c54) 1).f0 (rd_T54 ((c :: d :: r).map c54) 1).f1 33 = some (Gl.isC d 33) := is_f d 33
        have h94 : whiskref14_is.f (rd_T54 ((c :: d :: r).map c54) 1).f0 (rd_T54 ((c :: d :: r).map c54) 1).f1 94 = some (Gl.isC d 94) := is_f d 94
        have w2 : wrap64 ((1 : Int) + 1) = 2 := by unfold wrap64; omega
        cases h3 : Gl.isC d 33 with
        | true =>
          obtain ⟨k, hk⟩ := key 2 true (by decide)
          refine ⟨k + 2, ?_⟩
          rw [setOf_from hc (fr := 2) (by rw [h3]; rfl), h3, Bool.true_or]
          rw [whiskref14_set.f, if_neg (by rw [hml, List.length_cons]; omega), if_pos (by rw [hml, List.length_cons]; omega), h0, hc, Option.bind_some, whiskref14_set.j0, if_neg (by decide), if_pos (by rw [hml, List.length_cons, List.length_cons]; omega), h33, h3, Option.bind_some, if_pos rfl,
            whiskref14_set.j1, if_pos rfl, w2]
          exact hk
        | false =>
          cases h9 : Gl.isC d 94 with
          | true =>
            obtain ⟨k, hk⟩ := key 2 true (by decide)
            refine ⟨k + 2, ?_⟩
            rw [setOf_from hc (fr := 2) (by rw [h9]; simp), h3, h9, Bool.or_true]
            rw [whiskref14_set.f, if_neg (by rw [hml, List.length_cons]; omega), if_pos (by rw [hml, List.length_cons]; omega), h0, hc, Option.bind_some, whiskref14_set.j0, if_neg (by decide), if_pos (by rw [hml, List.length_cons, List.length_cons]; omega), h33, h3, Option.bind_some, if_neg (by decide), h94, h9, Option.bind_some,
              whiskref14_set.j1, if_pos rfl, w2]
            exact hk
          | false =>
            obtain ⟨k, hk⟩ := key 1 false (by decide)
            refine ⟨k + 2, ?_⟩
            rw [setOf_from hc (fr := 1) (by rw [h3, h9]; rfl), h3, h9, Bool.or_false]
            rw [whiskref14_set.f, if_neg (by rw [hml, List.length_cons]; omega), if_pos (by rw [hml, List.length_cons]; omega), h0, hc, Option.bind_some, whiskref14_set.j0, if_neg (by decide), if_pos (by rw [hml, List.length_cons, List.length_cons]; omega), h33, h3, Option.bind_some, if_neg (by decide), h94, h9, Option.bind_some,
              whiskref14_set.j1, if_neg (by decide)]
            exact hk


/-! ### the table -/
theorem up_of {α : Type} {f : Nat → Option α} (hm : ∀ k r, f k = some r → f (k + 1) = some r) {k : Nat} {r : α} (h : f k = some r) : ∀ n, f (k + n) = some r := by
  intro n
  induction n with
  | zero => exact h
  | succ n ih => exact hm (k + n) r ih

/-- What stands in row i, at k. -/
def M (cs : List Gl.Ch) (s : List UInt8) (i k : Nat) : Bool := Gl.matchP (Gl.pieces (cs.drop i)) (s.drop k)

structure Row (cs : List Gl.Ch) (s : List UInt8) (rows : List (List Bool)) (i d : Nat) : Prop where
  len : (rows.getD i []).length = s.length + 1
  val : ∀ k, d ≤ k → k ≤ s.length → (rows.getD i []).getD k false = M cs s i k

theorem rd_row (rows : List (List Bool)) (i : Nat) : rd_L6 rows (i : Int) = rows.getD i [] := rfl
theorem rd_bit (row : List Bool) (k : Nat) : rdOf false row (k : Int) = row.getD k false := rfl

theorem M_end (cs : List Gl.Ch) (s : List UInt8) (k : Nat) (hk : k ≤ s.length) : M cs s cs.length k = decide (k = s.length) := by
  unfold M
  rw [List.drop_eq_nil_of_le (Nat.le_refl _), Gl.pieces_nil, Bool.eq_iff_iff, Gl.matchP_nil, decide_eq_true_eq, List.drop_eq_nil_iff]
  omega
theorem not_set {c : Gl.Ch} {r : List Gl.Ch} {b : UInt8} (h : Gl.isC c b = true) (hb : b ≠ 91) : Gl.setOf (c :: r) = none := by
  have h91 : Gl.isC c 91 = false := by
    simp only [Gl.isC, Bool.and_eq_true, beq_iff_eq] at h
    simp [Gl.isC, h.2, hb]
  unfold Gl.setOf
  simp [h91]
theorem M_star {cs : List Gl.Ch} {s : List UInt8} {i k : Nat} {c : Gl.Ch} (hc : cs[i]? = some c) (h : Gl.isC c 42 = true) (hk : k ≤ s.length) : M cs s i k = (M cs s (i + 1) k || (decide (k < s.length) && M cs s i (k + 1))) := by
  unfold M
  rw [Gl.drop_cons hc, Gl.pieces_none (not_set h (by decide)), show Gl.ofCh c = .star from by rw [Gl.ofCh, if_pos h], Gl.matchP_cons, if_pos (by rfl)]
  by_cases hlt : k < s.length
  · rw [decide_eq_true hlt, Bool.true_and, List.drop_eq_getElem_cons hlt, Gl.sufs, List.any_cons, Gl.matchP_cons, if_pos (by rfl)]
  · have e : s.drop k = [] := List.drop_eq_nil_of_le (by omega)
    rw [decide_eq_false hlt, Bool.false_and, e]
    simp [Gl.sufs]
theorem M_one {cs : List Gl.Ch} {s : List UInt8} {i k : Nat} {p : Gl.Piece} {i' : Nat} (hp : Gl.pieces (cs.drop i) = p :: Gl.pieces (cs.drop i')) (hst : p.isStar = false) (hk : k < s.length) : M cs s i k = (p.one s[k] && M cs s i' (k + 1)) := by
  unfold M
  rw [hp, List.drop_eq_getElem_cons hk, Gl.matchP_cons, if_neg (by rw [hst]; decide)]
theorem M_none {cs : List Gl.Ch} {s : List UInt8} {i : Nat} {p : Gl.Piece} {l : List Gl.Piece} (hp : Gl.pieces (cs.drop i) = p :: l) (hst : p.isStar = false) : M cs s i s.length = false := by
  unfold M
  rw [hp, List.drop_eq_nil_of_le (Nat.le_refl _), Gl.matchP_cons, if_neg (by rw [hst]; decide)]
theorem first_piece {c : Gl.Ch} {r : List Gl.Ch} (h : Gl.isC c 42 = false) : ∃ p l, Gl.pieces (c :: r) = p :: l ∧ p.isStar = false := by
  cases hs : Gl.setOf (c :: r) with
  | some st => exact ⟨_, _, Gl.pieces_set hs, rfl⟩
  | none =>
    refine ⟨_, _, Gl.pieces_none hs, ?_⟩
    unfold Gl.ofCh
    rw [if_neg (by rw [h]; decide)]
    split <;> rfl

set_option maxHeartbeats 2000000 in
theorem ref_here (cs : List Gl.Ch) (s : ByteArray) (hl : cs.length ≤ 14) (hs : s.size ≤ 20) (rows : List (List Bool)) (hr : rows.length = cs.length + 1) (i k : Nat) (hi : i ≤ cs.length) (hk : k ≤ s.size)
    (h1 : ∀ j, i < j → j ≤ cs.length → Row cs s.data.toList rows j 0) (h2 : Row cs s.data.toList rows i (k + 1)) : ∃ n, whiskref14_here.f n rows (cs.map c54) s (i : Int) (k : Int) = some (M cs s.data.toList i k) := by
  have hml : (cs.map c54).length = cs.length := List.length_map _
  have hsl : s.data.toList.length = s.size := (Lib.size_eq s).symm
  have wk : wrap64 ((k : Int) + 1) = ((k + 1 : Nat) : Int) := wrap_succ (by omega)
  have wi : wrap64 ((i : Int) + 1) = ((i + 1 : Nat) : Int) := wrap_succ (by omega)
  by_cases hie : i = cs.length
  · subst hie
    refine ⟨0, ?_⟩
    rw [whiskref14_here.f, if_pos (by rw [hml]), M_end cs _ k (by rw [hsl]; exact hk), hsl]
    congr 1
    exact Gl.beq_nat _ _
  · have hil : i < cs.length := by omega
    obtain ⟨c, hc⟩ : ∃ c, cs[i]? = some c := ⟨_, List.getElem?_eq_getElem hil⟩
    have hdr := Gl.drop_cons hc
    have a42 : whiskref14_is.f (rd_T54 (cs.map c54) (i : Int)).f0 (rd_T54 (cs.map c54) (i : Int)).f1 42 = some (Gl.isC c 42) := is_at cs hc 42
    have a63 : whiskref14_is.f (rd_T54 (cs.map c54) (i : Int)).f0 (rd_T54 (cs.map c54) (i : Int)).f1 63 = some (Gl.isC c 63) := is_at cs hc 63
    have hn := h1 (i + 1) (by omega) (by omega)
    cases h42 : Gl.isC c 42 with
    | true =>
      refine ⟨0, ?_⟩
      rw [whiskref14_here.f, if_neg (by rw [hml]; omega), if_pos (by omega), if_pos (by rw [hml]; omega), a42, h42, Option.bind_some, if_pos rfl, wi, wk, if_pos (by omega), if_pos (by rw [hr]; omega), if_pos (by omega), rd_row, if_pos (by rw [hn.len, hsl]; omega), rd_bit, hn.val k (Nat.zero_le _) (by rw [hsl]; exact hk), M_star hc h42 (by rw [hsl]; exact hk)]
      cases hM : M cs s.data.toList (i + 1) k with
      | true => rfl
      | false =>
        rw [if_neg (by decide), Bool.false_or]
        by_cases hlt : k < s.size
        · rw [if_pos (by omega), if_pos (by rw [hr]; omega), if_pos (by omega), rd_row, if_pos (by rw [h2.len, hsl]; omega), rd_bit, h2.val (k + 1) (Nat.le_refl _) (by rw [hsl]; omega), hsl, decide_eq_true hlt, Bool.true_and]
        · rw [if_neg (by omega), hsl, decide_eq_false hlt, Bool.false_and]
    | false =>
      by_cases hke : k = s.size
      · subst hke
        obtain ⟨p, l, hp, hst⟩ := first_piece (r := cs.drop (i + 1)) h42
        refine ⟨0, ?_⟩
        rw [whiskref14_here.f, if_neg (by rw [hml]; omega), if_pos (by omega), if_pos (by rw [hml]; omega), a42, h42, Option.bind_some, if_neg (by decide), if_pos rfl]
        have := M_none (cs := cs) (s := s.data.toList) (i := i) (by rw [hdr]; exact hp) hst
        rw [hsl] at this
        rw [this]
      · have hkl : k < s.size := by omega
        have hkl' : k < s.data.toList.length := by rw [hsl]; exact hkl
        have hb : bt s (k : Int) = (s.data.toList[k].toNat : Int) := by rw [bt_nat s hkl]; simp; rfl
        cases h63 : Gl.isC c 63 with
        | true =>
          refine ⟨0, ?_⟩
          rw [whiskref14_here.f, if_neg (by rw [hml]; omega), if_pos (by omega), if_pos (by rw [hml]; omega), a42, h42, Option.bind_some, if_neg (by decide), if_neg (by omega), a63, h63, Option.bind_some, if_pos rfl, wi, wk, if_pos (by omega), if_pos (by rw [hr]; omega), if_pos (by omega), rd_row, if_pos (by rw [hn.len, hsl]; omega), rd_bit, hn.val (k + 1) (Nat.zero_le _) (by rw [hsl]; omega)]
          have hp : Gl.pieces (cs.drop i) = .any :: Gl.pieces (cs.drop (i + 1)) := by
            rw [hdr, Gl.pieces_none (not_set h63 (by decide)), Gl.ofCh, if_neg (by rw [h42]; decide), if_pos h63]
          rw [M_one hp rfl hkl']
          simp [Gl.Piece.one]
        | false =>
          obtain ⟨n, hset⟩ := ref_set (cs.drop i) s.data.toList[k] (by rw [List.length_drop]; omega)
          refine ⟨n, ?_⟩
          rw [whiskref14_here.f, if_neg (by rw [hml]; omega), if_pos (by omega), if_pos (by rw [hml]; omega), a42, h42, Option.bind_some, if_neg (by decide), if_neg (by omega), a63, h63, Option.bind_some, if_neg (by decide), if_pos (by rw [hml]; omega), if_pos (by omega), if_pos (by omega), hb,
            show ((i : Int)).toNat = i from rfl, ← List.map_drop, hset, Option.bind_some]
          cases hst : Gl.setOf (cs.drop i) with
          | some st =>
            have e : setAns (cs.drop i) s.data.toList[k] = ((st.len : Int), Gl.inBody s.data.toList[k] st.body != st.neg) := by rw [setAns, hst]
            have hle := Gl.setOf_le hst
            rw [List.length_drop] at hle
            have hpos := Gl.setOf_len hst
            have hle' : i + st.len ≤ cs.length := by clear hset hb e; omega
            have hj := h1 (i + st.len) (Nat.lt_add_of_pos_right hpos) hle'
            have ws : wrap64 ((i : Int) + (st.len : Int)) = ((i + st.len : Nat) : Int) := wrap_add (by clear hset hb e; omega) (by clear hset hb e; omega)
            have q1 : i + st.len < rows.length := by rw [hr]; exact Nat.lt_succ_of_le hle'
            have q2 : k + 1 < (rows.getD (i + st.len) []).length := by rw [hj.len, hsl]; exact Nat.succ_lt_succ hkl
            have q3 := hj.val (k + 1) (Nat.zero_le _) (by rw [hsl]; exact hkl)
            have hp : Gl.pieces (cs.drop i) = .set st.body st.neg :: Gl.pieces (cs.drop (i + st.len)) := by
              rw [Gl.pieces_set hst, List.drop_drop]
            rw [M_one hp rfl hkl', e]
            dsimp only
            rw [if_pos (Int.natCast_pos.2 hpos)]
            cases ho : (Gl.inBody s.data.toList[k] st.body != st.neg) with
            | true =>
              rw [if_pos rfl, ws, wk, if_pos (Int.natCast_nonneg _), if_pos (Int.ofNat_lt.2 q1), if_pos (Int.natCast_nonneg _), rd_row, if_pos (Int.ofNat_lt.2 q2), rd_bit, q3, Gl.Piece.one, ho, Bool.true_and]
            | false =>
              rw [if_neg (by decide), Gl.Piece.one, ho, Bool.false_and]
          | none =>
            have e : setAns (cs.drop i) s.data.toList[k] = (0, false) := by rw [setAns, hst]
            have hp : Gl.pieces (cs.drop i) = .lit c.1 :: Gl.pieces (cs.drop (i + 1)) := by
              rw [hdr] at hst ⊢
              rw [Gl.pieces_none hst, Gl.ofCh, if_neg (by rw [h42]; decide), if_neg (by rw [h63]; decide)]
            rw [M_one hp rfl hkl', e, if_neg (by decide), rd54 cs hc]
            have hq : ((c54 c).f0 = (s.data.toList[k].toNat : Int)) ↔ s.data.toList[k] = c.1 := by
              show ((c.1.toNat : Int) = _) ↔ _
              rw [← UInt8.toNat_inj]; omega
            by_cases hcb : s.data.toList[k] = c.1
            · rw [if_pos (hq.2 hcb), wi, wk, if_pos (by omega), if_pos (by rw [hr]; omega), if_pos (by omega), rd_row, if_pos (by rw [hn.len, hsl]; omega), rd_bit, hn.val (k + 1) (Nat.zero_le _) (by rw [hsl]; omega), Gl.Piece.one, hcb]
              simp
            · have hb2 : (s.data.toList[k] == c.1) = false := beq_eq_false_iff_ne.2 hcb
              rw [if_neg (fun h => hcb (hq.1 h)), Gl.Piece.one, hb2, Bool.false_and]

theorem getD_ne {α : Type} (l : List α) (i j : Nat) (v z : α) (h : i ≠ j) : (l.set i v).getD j z = l.getD j z := by
  rw [List.getD_eq_getElem?_getD, List.getD_eq_getElem?_getD, List.getElem?_set_ne h]
theorem getD_self {α : Type} (l : List α) (i : Nat) (v z : α) (h : i < l.length) : (l.set i v).getD i z = v := by
  rw [List.getD_eq_getElem?_getD, List.getElem?_set_self h]; rfl
theorem Row.other {cs : List Gl.Ch} {s : List UInt8} {rows : List (List Bool)} {i j d : Nat} {v : List Bool} (h : Row cs s rows j d) (hij : i ≠ j) : Row cs s (rows.set i v) j d :=
  ⟨by rw [getD_ne _ _ _ _ _ hij]; exact h.len, fun k h1 h2 => by rw [getD_ne _ _ _ _ _ hij]; exact h.val k h1 h2⟩
theorem Row.put {cs : List Gl.Ch} {s : List UInt8} {rows : List (List Bool)} {i d : Nat} (h : Row cs s rows i (d + 1)) (hi : i < rows.length) (hd : d ≤ s.length) : Row cs s (rows.set i ((rows.getD i []).set d (M cs s i d))) i d := by
  refine ⟨by rw [getD_self _ _ _ _ hi, List.length_set]; exact h.len, fun k h1 h2 => ?_⟩
  rw [getD_self _ _ _ _ hi]
  by_cases e : d = k
  · subst e; rw [getD_self _ _ _ _ (by rw [h.len]; omega)]
  · rw [getD_ne _ _ _ _ _ e]; exact h.val k (by omega) h2
theorem Row.fresh {cs : List Gl.Ch} {s : List UInt8} {rows : List (List Bool)} {i n : Nat} (hi : i < rows.length) (hn : n = s.length + 1) : Row cs s (rows.set i (List.replicate n false)) i n :=
  ⟨by rw [getD_self _ _ _ _ hi, List.length_replicate, hn], fun k h1 h2 => by omega⟩
theorem wrap_pred {i : Nat} (h : i ≤ 1000) : wrap64 ((i : Int) - 1) = (i : Int) - 1 := by unfold wrap64; omega

theorem ref_l1 (cs : List Gl.Ch) (s : ByteArray) (hl : cs.length ≤ 14) (hs : s.size ≤ 20) (i : Nat) (hi : i ≤ cs.length) {R : Bool}
    (hK : ∀ rows : List (List Bool), rows.length = cs.length + 1 → (∀ j, i ≤ j → j ≤ cs.length → Row cs s.data.toList rows j 0) → ∃ n, whiskref14_match.l0 n (cs.map c54) s rows ((i : Int) - 1) = some R) :
    ∀ (d : Nat) (rows : List (List Bool)), d ≤ s.size + 1 → rows.length = cs.length + 1 → (∀ j, i < j → j ≤ cs.length → Row cs s.data.toList rows j 0) → Row cs s.data.toList rows i d →
      ∃ n, whiskref14_match.l1 n (cs.map c54) s rows (i : Int) ((d : Int) - 1) = some R := by
  have hsl : s.data.toList.length = s.size := (Lib.size_eq s).symm
  intro d
  induction d with
  | zero =>
    intro rows _ hr h1 h2
    obtain ⟨n, hn⟩ := hK rows hr (fun j hj hj2 => by
      rcases Nat.lt_or_ge i j with h | h
      · exact h1 j h hj2
      · obtain rfl : i = j := by omega
        exact h2)
    refine ⟨n + 1, ?_⟩
    rw [whiskref14_match.l1, if_neg (by omega), wrap_pred (by omega)]
    exact hn
  | succ d ih =>
    intro rows hd hr h1 h2
    obtain ⟨n1, hn1⟩ := ref_here cs s hl hs rows hr i d hi (by omega) h1 h2
    obtain ⟨n2, hn2⟩ := ih (rows.set i ((rows.getD i []).set d (M cs s.data.toList i d))) (by omega) (by rw [List.length_set]; exact hr) (fun j hj hj2 => (h1 j hj hj2).other (by omega)) (h2.put (by omega) (by omega))
    have e : (((d + 1 : Nat) : Int) - 1) = (d : Int) := by omega
    have u1 := up_of (f := fun n => whiskref14_here.f n rows (cs.map c54) s (i : Int) (d : Int)) (fun k r => whiskref14_here.mono _ _ _ _ _ k r) hn1 n2
    have u2 := up_of (f := fun n => whiskref14_match.l1 n (cs.map c54) s (rows.set i ((rows.getD i []).set d (M cs s.data.toList i d))) (i : Int) ((d : Int) - 1)) (fun k r => (whiskref14_match.mono_l k).2 _ _ _ _ _ r) hn2 n1
    have hlen := h2.len
    refine ⟨n1 + n2 + 1, ?_⟩
    rw [e, whiskref14_match.l1, if_pos (by omega), if_pos (by omega), if_pos (by rw [hr]; omega), u1, Option.bind_some, if_pos (by omega), rd_row, if_pos (by rw [hlen]; omega), wrap_pred (by omega)]
    rw [Nat.add_comm] at u2
    exact u2

theorem ref_l0 (cs : List Gl.Ch) (s : ByteArray) (hl : cs.length ≤ 14) (hs : s.size ≤ 20) : ∀ (e : Nat) (rows : List (List Bool)), e ≤ cs.length + 1 → rows.length = cs.length + 1 → (∀ j, e ≤ j → j ≤ cs.length → Row cs s.data.toList rows j 0) →
    ∃ n, whiskref14_match.l0 n (cs.map c54) s rows ((e : Int) - 1) = some (M cs s.data.toList 0 0) := by
  have hsl : s.data.toList.length = s.size := (Lib.size_eq s).symm
  intro e
  induction e with
  | zero =>
    intro rows _ hr h
    have h0 := h 0 (Nat.le_refl _) (Nat.zero_le _)
    have hlen := h0.len
    have hv := h0.val 0 (Nat.le_refl _) (Nat.zero_le _)
    have e1 : rd_L6 rows 0 = rows.getD 0 [] := rfl
    refine ⟨1, ?_⟩
    rw [whiskref14_match.l0, if_neg (by omega), if_pos (by rw [hr]; omega), e1, if_pos (by rw [hlen]; omega), ← hv]
    rfl
  | succ e ih =>
    intro rows he hr h
    have ew : wrap64 ((s.size : Int) + 1) = ((s.size + 1 : Nat) : Int) := wrap_succ (by omega)
    obtain ⟨n, hn⟩ := ref_l1 cs s hl hs e (by omega) (fun rows' hr' h' => ih rows' (by omega) hr' h') (s.size + 1) (rows.set e (List.replicate (s.size + 1) false)) (Nat.le_refl _) (by rw [List.length_set]; exact hr)
      (fun j hj hj2 => (h j (by omega) hj2).other (by omega)) (Row.fresh (by omega) (by omega))
    rw [show (((s.size + 1 : Nat) : Int) - 1) = (s.size : Int) from by omega] at hn
    refine ⟨n + 1, ?_⟩
    rw [show (((e + 1 : Nat) : Int) - 1) = (e : Int) from by omega, whiskref14_match.l0, if_pos (by omega), ew, if_pos (by omega), if_pos (by omega), if_pos (by omega), if_pos (by rw [hr]; omega)]
    exact hn

theorem ref_match (cs : List Gl.Ch) (s : ByteArray) (hl : cs.length ≤ 14) (hs : s.size ≤ 20) : ∃ n, whiskref14_match.f n (cs.map c54) s = some (Gl.matchP (Gl.pieces cs) s.data.toList) := by
  have hml : (cs.map c54).length = cs.length := List.length_map _
  have ew : wrap64 (((cs.map c54).length : Int) + 1) = ((cs.length + 1 : Nat) : Int) := by rw [hml]; exact wrap_succ (by omega)
  obtain ⟨n, hn⟩ := ref_l0 cs s hl hs (cs.length + 1) (List.replicate (cs.length + 1) []) (Nat.le_refl _) (List.length_replicate ..) (fun j h1 h2 => absurd h1 (by omega))
  rw [show (((cs.length + 1 : Nat) : Int) - 1) = (cs.length : Int) from by omega] at hn
  refine ⟨n, ?_⟩
  rw [whiskref14_match.f, ew, if_pos (by omega), if_pos (by omega), hml]
  exact hn

theorem ref_Match (p : List S33) (s : ByteArray) (hp : (Gl.charsOf (p.map rnOf)).length ≤ 14) (hpl : p.length ≤ 14) (hs : s.size ≤ 20) :
    ∃ n, whiskref14_Match.f n p s = some (Gl.matchP (Gl.pieces (Gl.charsOf (p.map rnOf))) s.data.toList) := by
  obtain ⟨n1, h1⟩ := ref_chars p hp hpl
  obtain ⟨n2, h2⟩ := ref_match (Gl.charsOf (p.map rnOf)) s hp hs
  have u1 := up_of (f := fun n => whiskref14_Chars.f n p) (fun k r => whiskref14_Chars.mono _ k r) h1 n2
  have u2 := up_of (f := fun n => whiskref14_match.f n ((Gl.charsOf (p.map rnOf)).map c54) s) (fun k r => whiskref14_match.mono _ _ k r) h2 n1
  rw [Nat.add_comm] at u2
  refine ⟨n1 + n2, ?_⟩
  rw [whiskref14_Match.f, u1, Option.bind_some, u2, Option.bind_some]

/-! ### Magic -/
theorem set_of_ans {cs : List Gl.Ch} {b : UInt8} (h : ¬ (setAns cs b).1 > 0) : Gl.setOf cs = none := by
  cases hs : Gl.setOf cs with
  | none => rfl
  | some st =>
    have hpos := Gl.setOf_len hs
    rw [setAns, hs] at h
    exact absurd (show (0 : Int) < (st.len : Int) by omega) h
theorem ans_of_set {cs : List Gl.Ch} {b : UInt8} (h : (setAns cs b).1 > 0) : ∃ st, Gl.setOf cs = some st := by
  cases hs : Gl.setOf cs with
  | none => rw [setAns, hs] at h; exact absurd h (Int.lt_irrefl 0)
  | some st => exact ⟨st, rfl⟩

theorem ref_magic_l0 (cs : List Gl.Ch) (hl : cs.length ≤ 14) : ∀ (d i : Nat), i + d = cs.length → ∃ n, whiskref14_Magic.l0 n (cs.map c54) (i : Int) = some ((Gl.pieces (cs.drop i)).any Gl.Piece.odd) := by
  have hml : (cs.map c54).length = cs.length := List.length_map _
  intro d
  induction d with
  | zero =>
    intro i hi
    refine ⟨1, ?_⟩
    rw [whiskref14_Magic.l0, if_neg (by rw [hml]; omega), List.drop_eq_nil_of_le (by omega)]
    rfl
  | succ d ih =>
    intro i hi
    have hil : i < cs.length := by omega
    obtain ⟨c, hc⟩ : ∃ c, cs[i]? = some c := ⟨_, List.getElem?_eq_getElem hil⟩
    have hdr := Gl.drop_cons hc
    have a42 : whiskref14_is.f (rd_T54 (cs.map c54) (i : Int)).f0 (rd_T54 (cs.map c54) (i : Int)).f1 42 = some (Gl.isC c 42) := is_at cs hc 42
    have a63 : whiskref14_is.f (rd_T54 (cs.map c54) (i : Int)).f0 (rd_T54 (cs.map c54) (i : Int)).f1 63 = some (Gl.isC c 63) := is_at cs hc 63
    obtain ⟨n1, h1⟩ := ih (i + 1) (by omega)
    obtain ⟨n2, h2⟩ := ref_set (cs.drop i) 0 (by rw [List.length_drop]; omega)
    have u1 := up_of (f := fun n => whiskref14_Magic.l0 n (cs.map c54) ((i + 1 : Nat) : Int)) (fun k r => (whiskref14_Magic.mono_l k) _ _ r) h1 n2
    have u2 := up_of (f := fun n => whiskref14_set.f n ((cs.drop i).map c54) (((0 : UInt8).toNat : Nat) : Int)) (fun k r => whiskref14_set.mono _ _ k r) h2 n1
    rw [Nat.add_comm] at u2
    have u3 : whiskref14_set.f (n1 + n2) ((cs.map c54).drop ((i : Nat) : Int).toNat) 0 = some (setAns (cs.drop i) 0) := by
      rw [show ((i : Nat) : Int).toNat = i from rfl, ← List.map_drop]; exact u2
    refine ⟨n1 + n2 + 1, ?_⟩
    rw [whiskref14_Magic.l0, if_pos (by rw [hml]; omega), if_pos (by omega), if_pos (by rw [hml]; omega), u3, Option.bind_some]
    by_cases hs : (setAns (cs.drop i) 0).1 > 0
    · obtain ⟨st, hst⟩ := ans_of_set hs
      rw [if_pos hs, Gl.pieces_set hst]
      rfl
    · have hn := set_of_ans hs
      rw [if_neg hs, a42, Option.bind_some, hdr]
      rw [hdr] at hn
      rw [Gl.pieces_none hn, List.any_cons, Gl.ofCh]
      cases h42 : Gl.isC c 42 with
      | true => rw [if_pos rfl, if_pos rfl]; rfl
      | false =>
        rw [if_neg (by decide), if_neg (by decide), a63, Option.bind_some]
        cases h63 : Gl.isC c 63 with
        | true => rw [if_pos rfl, if_pos rfl]; rfl
        | false =>
          rw [if_neg (by decide), if_neg (by decide), wrap_succ (by omega), u1]
          rfl

theorem ref_Magic (p : List S33) (hp : (Gl.charsOf (p.map rnOf)).length ≤ 14) (hpl : p.length ≤ 14) : ∃ n, whiskref14_Magic.f n p = some ((Gl.pieces (Gl.charsOf (p.map rnOf))).any Gl.Piece.odd) := by
  obtain ⟨n1, h1⟩ := ref_chars p hp hpl
  obtain ⟨n2, h2⟩ := ref_magic_l0 (Gl.charsOf (p.map rnOf)) hp _ 0 (Nat.zero_add _)
  have u1 := up_of (f := fun n => whiskref14_Chars.f n p) (fun k r => whiskref14_Chars.mono _ k r) h1 n2
  have u2 := up_of (f := fun n => whiskref14_Magic.l0 n ((Gl.charsOf (p.map rnOf)).map c54) ((0 : Nat) : Int)) (fun k r => (whiskref14_Magic.mono_l k) _ _ r) h2 n1
  rw [Nat.add_comm] at u2
  refine ⟨n1 + n2, ?_⟩
  rw [whiskref14_Magic.f, u1, Option.bind_some]
  exact u2

/-! ### Plain -/
theorem ba_toArray (l : List UInt8) (s : ByteArray) : (⟨l.toArray⟩ : ByteArray) ++ s = ⟨(l ++ s.data.toList).toArray⟩ := by
  apply ByteArray.ext
  rw [ByteArray.data_append]
  simp
theorem ba_size (l : List UInt8) : (⟨l.toArray⟩ : ByteArray).size = l.length := rfl

theorem ref_plain_l0 (p : List S33) (hp : (Gl.charsOf (p.map rnOf)).length ≤ 14) (hpl : p.length ≤ 14) : ∀ (d i : Nat), i + d = p.length →
    ∃ n, whiskref14_Plain.l0 n p ⟨(Gl.plainL ((p.take i).map rnOf)).toArray⟩ (i : Int) = some ⟨(Gl.plainL (p.map rnOf)).toArray⟩ := by
  intro d
  induction d with
  | zero =>
    intro i hi
    rw [Nat.add_zero] at hi
    subst hi
    refine ⟨1, ?_⟩
    rw [whiskref14_Plain.l0, if_neg (by omega), List.take_length]
  | succ d ih =>
    intro i hi
    have hil : i < p.length := by omega
    obtain ⟨x, hx⟩ : ∃ x, p[i]? = some x := ⟨_, List.getElem?_eq_getElem hil⟩
    obtain ⟨n, hn⟩ := ih (i + 1) (by omega)
    have hx2 : (p.map rnOf)[i]? = some (rnOf x) := by rw [List.getElem?_map, hx]; rfl
    have ht : Gl.plainL ((p.take (i + 1)).map rnOf) = Gl.plainL ((p.take i).map rnOf) ++ x.f0.data.toList := by
      rw [List.map_take, List.map_take, Gl.plainL_take_succ hx2]; rfl
    have hle : (Gl.plainL ((p.take (i + 1)).map rnOf)).length ≤ 14 := by
      rw [Gl.plainL_length, List.map_take]; exact Nat.le_trans (Gl.charsOf_take_le _ _) hp
    rw [ht, List.length_append] at hle
    have hxs : x.f0.data.toList.length = x.f0.size := (Lib.size_eq x.f0).symm
    rw [hxs] at hle
    rw [ht] at hn
    refine ⟨n + 1, ?_⟩
    rw [whiskref14_Plain.l0, if_pos (by omega), if_pos (by omega), rd33 p hx, if_pos (by rw [ba_size]; omega), ba_toArray, wrap_succ (by omega)]
    exact hn

theorem ref_Plain (p : List S33) (hp : (Gl.charsOf (p.map rnOf)).length ≤ 14) (hpl : p.length ≤ 14) : ∃ n, whiskref14_Plain.f n p = some ⟨(Gl.plainL (p.map rnOf)).toArray⟩ := by
  obtain ⟨n, h⟩ := ref_plain_l0 p hp hpl p.length 0 (Nat.zero_add _)
  exact ⟨n, h⟩

theorem GlobMatches (l0 : List S33) (a1 : ByteArray) (h1 : a1.size ≤ 140737488351232) : ∃ k, whisklaw14_GlobMatches.f k l0 a1 = some true := by
  obtain ⟨n1, p, hc, hp, hpl⟩ := cut_f l0
  have hso : sumOk p := Nat.le_trans hp (by decide)
  have hsz := cut_size a1 12
  have hm := mn_le (a := (a1.size : Int)) (b := 12)
  have hg := mn_ge (a := (a1.size : Int)) (b := 12) (by omega) (by decide)
  obtain ⟨s, hs⟩ : ∃ s, a1.extract 0 (mn (a1.size : Int) 12).toNat = s := ⟨_, rfl⟩
  rw [hs] at hsz
  have hsz : s.size ≤ 12 := hsz
  obtain ⟨n2, h2⟩ := ref_Match p s hp hpl (by omega)
  obtain ⟨n3, h3⟩ := ref_Magic p hp hpl
  obtain ⟨n4, h4⟩ := ref_Plain p hp hpl
  have u1 := up_of (f := fun n => whisklaw14_cut.f n l0) (fun k r => whisklaw14_cut.mono _ k r) hc (n2 + n3 + n4)
  have u2 := up_of (f := fun n => whiskref14_Match.f n p s) (fun k r => whiskref14_Match.mono _ _ k r) h2 (n1 + n3 + n4)
  have u3 := up_of (f := fun n => whiskref14_Magic.f n p) (fun k r => whiskref14_Magic.mono _ k r) h3 (n1 + n2 + n4)
  have u4 := up_of (f := fun n => whiskref14_Plain.f n p) (fun k r => whiskref14_Plain.mono _ k r) h4 (n1 + n2 + n3)
  rw [show n2 + (n1 + n3 + n4) = n1 + (n2 + n3 + n4) from by omega] at u2
  rw [show n3 + (n1 + n2 + n4) = n1 + (n2 + n3 + n4) from by omega] at u3
  rw [show n4 + (n1 + n2 + n3) = n1 + (n2 + n3 + n4) from by omega] at u4
  have hM : glob_Magic.f p = some ((Gl.pieces (Gl.charsOf (p.map rnOf))).any Gl.Piece.odd) := if_pos hso
  have hP : glob_Plain.f p = some ⟨(Gl.plainL (p.map rnOf)).toArray⟩ := if_pos hso
  refine ⟨n1 + (n2 + n3 + n4), ?_⟩
  rw [whisklaw14_GlobMatches.f, u1, Option.bind_some, if_pos hg, if_pos hm.1, hs, match_f hso (by omega), Option.bind_some, u2, Option.bind_some, beq_self_eq_true, if_pos rfl, hM, Option.bind_some, u3, Option.bind_some, beq_self_eq_true, if_pos rfl,
    hP, Option.bind_some, u4, Option.bind_some, if_pos rfl]
  rfl

end Go.Proofs.Ythbnnlhkcaomlaa.Pure
