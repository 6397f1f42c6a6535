/- What ExpandTrims asks, as plain functions. -/
import Derived.Test.YthbnnlhkcaomlaaDoorExTop
namespace Go.Proofs.YthbnnlhkcaomlaaDoor.Ex
open Go.RowKit Go.Shelf Go.Proofs.YthbnnlhkcaomlaaDoorW.PrintWords Go.Proofs.YthbnnlhkcaomlaaDoor.Gl

/-! ### patterns -/
theorem set_quo (b : UInt8) (l : List Ch) : setOf ((b, true) :: l) = none := rfl
theorem quo_pieces : ∀ t : List UInt8, pieces (t.map fun b => (b, true)) = t.map Piece.lit
  | [] => pieces_nil
  | b :: t => by
    rw [List.map_cons, pieces_none (set_quo b _), quo_pieces t]
    rfl
theorem lits_match : ∀ (t s : List UInt8), matchP (t.map Piece.lit) s = true ↔ s = t
  | [], s => matchP_nil
  | b :: t, s => by
    rw [List.map_cons, matchP_one rfl]
    constructor
    · rintro ⟨c, u, rfl, h1, h2⟩
      rw [(lits_match t u).1 h2]
      have h3 : c = b := by
        have : (b == c) = true ∨ (c == b) = true := by first | exact .inl h1 | exact .inr h1
        rcases this with h | h
        · exact (by simpa using h : b = c).symm
        · simpa using h
      rw [h3]
    · rintro rfl
      exact ⟨b, t, rfl, by simp [Piece.one], (lits_match t t).2 rfl⟩
theorem star_match (l : List Ch) (s : List UInt8) : matchP (pieces ((42, false) :: l)) s = true ↔ ∃ k, k ≤ s.length ∧ matchP (pieces l) (s.drop k) = true := by
  rw [pieces_none (show setOf ((42, false) :: l) = none from rfl)]
  exact matchP_star rfl
def starR : Rn := ⟨⟨#[42]⟩, false, true⟩
def quoR (t : B) : Rn := ⟨t, true, false⟩
theorem chars_quo (t : B) : charsOf [quoR t] = t.data.toList.map fun b => (b, true) := by
  simp [charsOf, quoR, chOf]
theorem chars_star (l : List Rn) : charsOf (starR :: l) = (42, false) :: charsOf l := rfl
theorem all_star (s : List UInt8) : matchP (pieces (charsOf [starR])) s = true :=
  (star_match [] s).2 ⟨s.length, Nat.le_refl _, by rw [List.drop_length]; rfl⟩
theorem quo_iff (t : B) (s : B) : matchP (pieces (charsOf [quoR t])) s.data.toList = true ↔ s = t := by
  rw [chars_quo, quo_pieces, lits_match]
  constructor
  · intro h; exact ByteArray.ext (Array.toList_inj.1 h)
  · rintro rfl; rfl
theorem ext_list (v : B) (a b : Nat) : (v.extract a b).data.toList = (v.data.toList.take b).drop a := by
  rw [ByteArray.data_extract, Array.toList_extract, List.extract_eq_take_drop, List.drop_take]
theorem starquo_iff (t v : B) (j : Nat) (hj : j ≤ v.size) : matchP (pieces (charsOf [starR, quoR t])) (v.extract 0 j).data.toList = true ↔ t.size ≤ j ∧ v.extract (j - t.size) j = t := by
  rw [chars_star, star_match, chars_quo, quo_pieces]
  have hv : v.data.toList.length = v.size := by simp
  have ht : t.data.toList.length = t.size := by simp
  constructor
  · rintro ⟨k, hk, h⟩
    rw [lits_match, ext_list, List.drop_zero] at h
    have hl := congrArg List.length h
    rw [List.length_drop, List.length_take, hv, ht] at hl
    rw [ext_list, List.drop_zero, List.length_take, hv] at hk
    have e : k = j - t.size := by omega
    refine ⟨by omega, ByteArray.ext (Array.toList_inj.1 ?_)⟩
    rw [ext_list, ← e]
    exact h
  · rintro ⟨h1, h2⟩
    refine ⟨j - t.size, ?_, ?_⟩
    · rw [ext_list, List.drop_zero, List.length_take, hv]; omega
    · rw [lits_match, ext_list, List.drop_zero, ← ext_list, h2]

/-! ### where it is cut -/
def jj (op s : B) (i : Nat) : Nat := if op.size = 2 then s.size - i else i
theorem cutF_skip (cs : List Ch) (op s : B) : ∀ (k i r : Nat), (∀ i', i ≤ i' → i' < i + k → (cutAt cs op s (jj op s i')).2 = false) → cutF cs op s (k + r) i = cutF cs op s r (i + k)
  | 0, i, r, _ => by rw [Nat.zero_add, Nat.add_zero]
  | k + 1, i, r, h => by
    have h0 := h i (Nat.le_refl _) (by omega)
    rw [show k + 1 + r = (k + r) + 1 from by omega]
    show (if (cutAt cs op s (jj op s i)).2 then (cutAt cs op s (jj op s i)).1 else cutF cs op s (k + r) (i + 1)) = _
    rw [h0, if_neg (by simp), cutF_skip cs op s k (i + 1) r (fun i' h1 h2 => h i' (by omega) (by omega))]
    congr 1
    omega
theorem cutF_hit {cs : List Ch} {op s : B} {i r : Nat} (h : (cutAt cs op s (jj op s i)).2 = true) : cutF cs op s (r + 1) i = (cutAt cs op s (jj op s i)).1 := by
  show (if (cutAt cs op s (jj op s i)).2 then (cutAt cs op s (jj op s i)).1 else cutF cs op s r (i + 1)) = _
  rw [h, if_pos rfl]
theorem cutF_at {cs : List Ch} {op s : B} {i : Nat} (hi : i ≤ s.size) (h : (cutAt cs op s (jj op s i)).2 = true) (h0 : ∀ i', i' < i → (cutAt cs op s (jj op s i')).2 = false) : cutF cs op s (s.size + 1) 0 = (cutAt cs op s (jj op s i)).1 := by
  rw [show s.size + 1 = i + ((s.size - i) + 1) from by omega, cutF_skip cs op s i 0 _ (fun i' _ h2 => h0 i' (by omega)), Nat.zero_add]
  exact cutF_hit h
theorem cutF_none {cs : List Ch} {op s : B} (h0 : ∀ i', i' ≤ s.size → (cutAt cs op s (jj op s i')).2 = false) : cutF cs op s (s.size + 1) 0 = s := by
  have h := cutF_skip cs op s (s.size + 1) 0 0 (fun i' _ h2 => h0 i' (by omega))
  rw [Nat.add_zero] at h
  rw [h]
  rfl

def oH : B := ⟨#[35]⟩
def oHH : B := ⟨#[35, 35]⟩
def oP : B := ⟨#[37]⟩
def oPP : B := ⟨#[37, 37]⟩
theorem at_H (cs : List Ch) (s : B) (j : Nat) : cutAt cs oH s j = (s.extract j s.size, matchP (pieces cs) (s.extract 0 j).data.toList) := rfl
theorem at_HH (cs : List Ch) (s : B) (j : Nat) : cutAt cs oHH s j = (s.extract j s.size, matchP (pieces cs) (s.extract 0 j).data.toList) := rfl
theorem at_P (cs : List Ch) (s : B) (j : Nat) : cutAt cs oP s j = (s.extract 0 (s.size - j), matchP (pieces cs) (s.extract (s.size - j) s.size).data.toList) := rfl
theorem at_PP (cs : List Ch) (s : B) (j : Nat) : cutAt cs oPP s j = (s.extract 0 (s.size - j), matchP (pieces cs) (s.extract (s.size - j) s.size).data.toList) := rfl
theorem j1 (s : B) (i : Nat) : jj oH s i = i ∧ jj oP s i = i ∧ jj oHH s i = s.size - i ∧ jj oPP s i = s.size - i := ⟨rfl, rfl, rfl, rfl⟩
theorem ext_all (s : B) : s.extract 0 s.size = s := by simp
theorem ext_size {s : B} {a b : Nat} (h : b ≤ s.size) : (s.extract a b).size = b - a := by
  rw [ByteArray.size_extract, Nat.min_eq_left h]
theorem ext_nil (s : B) (a : Nat) (ha : a ≤ s.size) : s.extract a a = ⟨#[]⟩ := by
  apply ByteArray.ext
  have h : (s.extract a a).size = 0 := by rw [ext_size ha]; omega
  exact Array.eq_empty_of_size_eq_zero h

theorem star_H (v : B) : cutF (charsOf [starR]) oH v (v.size + 1) 0 = v := by
  rw [cutF_at (i := 0) (Nat.zero_le _) (by rw [at_H]; exact all_star _) (fun _ h => absurd h (by omega)), at_H]
  exact ext_all v
theorem star_HH (v : B) : cutF (charsOf [starR]) oHH v (v.size + 1) 0 = ⟨#[]⟩ := by
  rw [cutF_at (i := 0) (Nat.zero_le _) (by rw [at_HH]; exact all_star _) (fun _ h => absurd h (by omega)), at_HH]
  exact ext_nil v _ (Nat.le_refl _)
theorem star_P (v : B) : cutF (charsOf [starR]) oP v (v.size + 1) 0 = v := by
  rw [cutF_at (i := 0) (Nat.zero_le _) (by rw [at_P]; exact all_star _) (fun _ h => absurd h (by omega)), at_P]
  exact ext_all v
theorem star_PP (v : B) : cutF (charsOf [starR]) oPP v (v.size + 1) 0 = ⟨#[]⟩ := by
  rw [cutF_at (i := 0) (Nat.zero_le _) (by rw [at_PP]; exact all_star _) (fun _ h => absurd h (by omega)), at_PP]
  show v.extract 0 (v.size - (v.size - 0)) = _
  rw [Nat.sub_zero, Nat.sub_self]
  exact ext_nil v 0 (Nat.zero_le _)

def wantP (v t : B) : B := if t.size ≤ v.size ∧ v.extract 0 t.size = t then v.extract t.size v.size else v
def endP (v t : B) : B := if t.size ≤ v.size ∧ v.extract (v.size - t.size) v.size = t then v.extract 0 (v.size - t.size) else v
theorem quo_no {t s : B} (h : s.size ≠ t.size) : matchP (pieces (charsOf [quoR t])) s.data.toList = false := by
  rw [Bool.eq_false_iff]
  intro e
  exact h (congrArg _ ((quo_iff t s).1 e))
theorem quo_no' {t s : B} (h : ¬ s = t) : matchP (pieces (charsOf [quoR t])) s.data.toList = false := by
  rw [Bool.eq_false_iff]
  exact fun e => h ((quo_iff t s).1 e)
theorem quo_H (v t : B) : cutF (charsOf [quoR t]) oH v (v.size + 1) 0 = wantP v t := by
  unfold wantP
  split
  · rename_i h
    rw [cutF_at (i := t.size) h.1 (by rw [at_H]; exact (quo_iff t _).2 h.2) (fun i hi => by rw [at_H]; exact quo_no (by rw [(j1 v i).1, ext_size (by omega)]; omega)), at_H]
    rfl
  · rename_i h
    refine cutF_none fun i hi => ?_
    rw [at_H]
    refine quo_no' fun e => h ?_
    rw [(j1 v i).1] at e
    have hs := congrArg ByteArray.size e
    rw [ext_size hi, Nat.sub_zero] at hs
    exact ⟨by omega, by rw [← hs]; exact e⟩
theorem quo_HH (v t : B) : cutF (charsOf [quoR t]) oHH v (v.size + 1) 0 = wantP v t := by
  unfold wantP
  split
  · rename_i h
    have e1 : v.size - (v.size - t.size) = t.size := by omega
    rw [cutF_at (i := v.size - t.size) (by omega) (by rw [at_HH, (j1 v _).2.2.1, e1]; exact (quo_iff t _).2 h.2) (fun i hi => by rw [at_HH]; exact quo_no (by rw [(j1 v i).2.2.1, ext_size (by omega)]; omega)), at_HH, (j1 v _).2.2.1, e1]
  · rename_i h
    refine cutF_none fun i hi => ?_
    rw [at_HH]
    refine quo_no' fun e => h ?_
    rw [(j1 v i).2.2.1] at e
    have hs := congrArg ByteArray.size e
    rw [ext_size (by omega), Nat.sub_zero] at hs
    exact ⟨by omega, by rw [← hs]; exact e⟩
theorem quo_P (v t : B) : cutF (charsOf [quoR t]) oP v (v.size + 1) 0 = endP v t := by
  unfold endP
  split
  · rename_i h
    rw [cutF_at (i := t.size) h.1 (by rw [at_P]; exact (quo_iff t _).2 h.2) (fun i hi => by rw [at_P]; exact quo_no (by rw [(j1 v i).2.1, ext_size (Nat.le_refl _)]; omega)), at_P]
    rfl
  · rename_i h
    refine cutF_none fun i hi => ?_
    rw [at_P]
    refine quo_no' fun e => h ?_
    rw [(j1 v i).2.1] at e
    have hs := congrArg ByteArray.size e
    rw [ext_size (Nat.le_refl _)] at hs
    have e2 : i = t.size := by omega
    exact ⟨by omega, by rw [← e2]; exact e⟩
theorem quo_PP (v t : B) : cutF (charsOf [quoR t]) oPP v (v.size + 1) 0 = endP v t := by
  unfold endP
  split
  · rename_i h
    have e1 : v.size - (v.size - t.size) = t.size := by omega
    rw [cutF_at (i := v.size - t.size) (by omega) (by rw [at_PP, (j1 v _).2.2.2, e1]; exact (quo_iff t _).2 h.2) (fun i hi => by rw [at_PP]; exact quo_no (by rw [(j1 v i).2.2.2, ext_size (Nat.le_refl _)]; omega)), at_PP, (j1 v _).2.2.2, e1]
  · rename_i h
    refine cutF_none fun i hi => ?_
    rw [at_PP]
    refine quo_no' fun e => h ?_
    rw [(j1 v i).2.2.2] at e
    have hs := congrArg ByteArray.size e
    rw [ext_size (Nat.le_refl _)] at hs
    have e2 : v.size - i = t.size := by omega
    exact ⟨by omega, by rw [← e2]; exact e⟩

/-! ### where the text stands -/
def occ (v t : B) (i : Nat) : Bool := decide (v.extract i (i + t.size) = t)
def firstN (v t : B) : Nat → Int
  | 0 => -1
  | n + 1 => if firstN v t n < 0 ∧ occ v t n = true then n else firstN v t n
def lastN (v t : B) : Nat → Int
  | 0 => -1
  | n + 1 => if occ v t n = true then n else lastN v t n
theorem first_spec (v t : B) : ∀ n, (firstN v t n = -1 ∧ ∀ i, i < n → occ v t i = false) ∨ ∃ f, f < n ∧ firstN v t n = (f : Int) ∧ occ v t f = true ∧ ∀ i, i < f → occ v t i = false
  | 0 => .inl ⟨rfl, fun i h => absurd h (by omega)⟩
  | n + 1 => by
    unfold firstN
    rcases first_spec v t n with ⟨h1, h2⟩ | ⟨f, h1, h2, h3, h4⟩
    · by_cases ho : occ v t n = true
      · rw [if_pos ⟨by rw [h1]; decide, ho⟩]
        exact .inr ⟨n, by omega, rfl, ho, h2⟩
      · rw [if_neg (fun h => ho h.2)]
        refine .inl ⟨h1, fun i hi => ?_⟩
        rcases Nat.lt_or_eq_of_le (Nat.lt_succ_iff.1 hi) with h | h
        · exact h2 i h
        · rw [h]; exact Bool.eq_false_iff.2 ho
    · rw [if_neg (fun h => by rw [h2] at h; omega)]
      exact .inr ⟨f, by omega, h2, h3, h4⟩
theorem last_spec (v t : B) : ∀ n, (lastN v t n = -1 ∧ ∀ i, i < n → occ v t i = false) ∨ ∃ f, f < n ∧ lastN v t n = (f : Int) ∧ occ v t f = true ∧ ∀ i, f < i → i < n → occ v t i = false
  | 0 => .inl ⟨rfl, fun i h => absurd h (by omega)⟩
  | n + 1 => by
    unfold lastN
    by_cases ho : occ v t n = true
    · rw [if_pos ho]
      exact .inr ⟨n, by omega, rfl, ho, fun i h1 h2 => absurd h2 (by omega)⟩
    · rw [if_neg ho]
      have ho' : occ v t n = false := Bool.eq_false_iff.2 ho
      rcases last_spec v t n with ⟨h1, h2⟩ | ⟨f, h1, h2, h3, h4⟩
      · refine .inl ⟨h1, fun i hi => ?_⟩
        rcases Nat.lt_or_eq_of_le (Nat.lt_succ_iff.1 hi) with h | h
        · exact h2 i h
        · rw [h]; exact ho'
      · refine .inr ⟨f, by omega, h2, h3, fun i h5 hi => ?_⟩
        rcases Nat.lt_or_eq_of_le (Nat.lt_succ_iff.1 hi) with h | h
        · exact h4 i h5 h
        · rw [h]; exact ho'
def cutFrom (v t : B) (f : Int) : B := if 0 ≤ f then v.extract (f.toNat + t.size) v.size else v
theorem sq_iff (t v : B) (j : Nat) (hj : j ≤ v.size) : matchP (pieces (charsOf [starR, quoR t])) (v.extract 0 j).data.toList = true ↔ t.size ≤ j ∧ occ v t (j - t.size) = true := by
  rw [starquo_iff t v j hj]
  unfold occ
  rw [decide_eq_true_iff]
  constructor
  · rintro ⟨h1, h2⟩; exact ⟨h1, by rw [Nat.sub_add_cancel h1]; exact h2⟩
  · rintro ⟨h1, h2⟩; exact ⟨h1, by rw [Nat.sub_add_cancel h1] at h2; exact h2⟩
theorem sq_H (v t : B) : cutF (charsOf [starR, quoR t]) oH v (v.size + 1) 0 = cutFrom v t (firstN v t (v.size + 1 - t.size)) := by
  unfold cutFrom
  rcases first_spec v t (v.size + 1 - t.size) with ⟨h1, h2⟩ | ⟨f, h1, h2, h3, h4⟩
  · rw [h1, if_neg (by decide)]
    refine cutF_none fun i hi => ?_
    rw [at_H, (j1 v i).1, Bool.eq_false_iff]
    intro e
    obtain ⟨e1, e2⟩ := (sq_iff t v i hi).1 e
    rw [h2 (i - t.size) (by omega)] at e2
    cases e2
  · rw [h2, if_pos (by omega), cutF_at (i := f + t.size) (by omega) (by rw [at_H, (j1 v _).1]; exact (sq_iff t v _ (by omega)).2 ⟨by omega, by rw [Nat.add_sub_cancel]; exact h3⟩) (fun i hi => by
      rw [at_H, (j1 v i).1, Bool.eq_false_iff]
      intro e
      obtain ⟨e1, e2⟩ := (sq_iff t v i (by omega)).1 e
      rw [h4 (i - t.size) (by omega)] at e2
      cases e2), at_H, (j1 v _).1, Int.toNat_natCast]
theorem sq_HH (v t : B) : cutF (charsOf [starR, quoR t]) oHH v (v.size + 1) 0 = cutFrom v t (lastN v t (v.size + 1 - t.size)) := by
  unfold cutFrom
  rcases last_spec v t (v.size + 1 - t.size) with ⟨h1, h2⟩ | ⟨f, h1, h2, h3, h4⟩
  · rw [h1, if_neg (by decide)]
    refine cutF_none fun i hi => ?_
    rw [at_HH, (j1 v i).2.2.1, Bool.eq_false_iff]
    intro e
    obtain ⟨e1, e2⟩ := (sq_iff t v (v.size - i) (by omega)).1 e
    rw [h2 (v.size - i - t.size) (by omega)] at e2
    cases e2
  · have e0 : v.size - (v.size - (f + t.size)) = f + t.size := by omega
    rw [h2, if_pos (by omega), cutF_at (i := v.size - (f + t.size)) (by omega) (by rw [at_HH, (j1 v _).2.2.1, e0]; exact (sq_iff t v _ (by omega)).2 ⟨by omega, by rw [Nat.add_sub_cancel]; exact h3⟩) (fun i hi => by
      rw [at_HH, (j1 v i).2.2.1, Bool.eq_false_iff]
      intro e
      obtain ⟨e1, e2⟩ := (sq_iff t v (v.size - i) (by omega)).1 e
      rw [h4 (v.size - i - t.size) (by omega) (by omega)] at e2
      cases e2), at_HH, (j1 v _).2.2.1, e0, Int.toNat_natCast]

end Go.Proofs.YthbnnlhkcaomlaaDoor.Ex
