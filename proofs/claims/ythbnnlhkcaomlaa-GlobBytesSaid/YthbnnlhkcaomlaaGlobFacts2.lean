/- What quoted runs and a star between them match: plain facts. -/
import Derived.Test.YthbnnlhkcaomlaaGlobFacts
namespace Go.Proofs.Ythbnnlhkcaomlaa.Gl
open Go.RowKit

theorem pieces_quoted (a : List UInt8) (r : List Ch) : pieces (chq true a ++ r) = a.map Piece.lit ++ pieces r := by
  induction a with
  | nil => rfl
  | cons b a ih =>
    have hs : setOf (chq true (b :: a) ++ r) = none := by simp [chq, setOf, isC]
    show pieces ((b, true) :: (chq true a ++ r)) = _
    rw [pieces_none (show setOf ((b, true) :: (chq true a ++ r)) = none from hs), ih]
    simp [ofCh, isC]

theorem pieces_star (r : List Ch) : pieces ((42, false) :: r) = .star :: pieces r := by
  rw [pieces_none (by simp [setOf, isC])]
  simp [ofCh, isC]

theorem match_lits (a : List UInt8) (P : List Piece) (s : List UInt8) : matchP (a.map Piece.lit ++ P) s = true ↔ ∃ r, s = a ++ r ∧ matchP P r = true := by
  induction a generalizing s with
  | nil => simp
  | cons b a ih =>
    rw [List.map_cons, List.cons_append, matchP_one (by rfl)]
    constructor
    · rintro ⟨c, t, rfl, h1, h2⟩
      obtain ⟨r, rfl, h⟩ := (ih t).1 h2
      have : c = b := by simpa [Piece.one] using h1
      exact ⟨r, by rw [this]; rfl, h⟩
    · rintro ⟨r, rfl, h⟩
      exact ⟨b, a ++ r, rfl, by simp [Piece.one], (ih _).2 ⟨r, rfl, h⟩⟩

theorem match_all_lits (a s : List UInt8) : matchP (a.map Piece.lit) s = decide (s = a) := by
  rw [Bool.eq_iff_iff, decide_eq_true_eq]
  have := match_lits a [] s
  rw [List.append_nil] at this
  rw [this]
  constructor
  · rintro ⟨r, rfl, h⟩
    rw [matchP_nil.1 h, List.append_nil]
  · rintro rfl
    exact ⟨[], by simp, rfl⟩

theorem star_law (a b s : List UInt8) : matchP (pieces (chq true a ++ (42, false) :: chq true b)) s = (decide (a.length + b.length ≤ s.length) && (a.isPrefixOf s && b.isSuffixOf s)) := by
  have hb : pieces (chq true b) = b.map Piece.lit := by
    have := pieces_quoted b []
    rwa [List.append_nil, pieces_nil, List.append_nil] at this
  rw [pieces_quoted, pieces_star, hb, Bool.eq_iff_iff, match_lits]
  simp only [Bool.and_eq_true, decide_eq_true_eq, List.isPrefixOf_iff_prefix, List.isSuffixOf_iff_suffix]
  constructor
  · rintro ⟨r, rfl, h⟩
    rw [matchP_star (by rfl)] at h
    obtain ⟨k, hk, h⟩ := h
    rw [match_all_lits, decide_eq_true_eq] at h
    have hl := congrArg List.length h
    rw [List.length_drop] at hl
    refine ⟨by rw [List.length_append]; omega, ⟨r, rfl⟩, ?_⟩
    exact ⟨a ++ r.take k, by rw [← h, List.append_assoc, List.take_append_drop]⟩
  · rintro ⟨hl, ⟨r, rfl⟩, ⟨p, hp⟩⟩
    refine ⟨r, rfl, ?_⟩
    rw [matchP_star (by rfl)]
    have hpl := congrArg List.length hp
    rw [List.length_append, List.length_append] at hpl
    rw [List.length_append] at hl
    refine ⟨r.length - b.length, by omega, ?_⟩
    rw [match_all_lits, decide_eq_true_eq]
    have h1 : (p ++ b).drop p.length = (a ++ r).drop p.length := by rw [hp]
    rw [List.drop_left, show p.length = a.length + (r.length - b.length) from by omega, List.drop_append, List.drop_eq_nil_of_le (by omega), List.nil_append] at h1
    have e : a.length + (r.length - b.length) - a.length = r.length - b.length := by omega
    rw [e] at h1
    exact h1.symm

theorem star_in (a b s : List UInt8) : matchP (pieces (chq true a ++ (42, false) :: chq true b)) (a ++ s ++ b) = true := by
  rw [star_law]
  simp only [Bool.and_eq_true, decide_eq_true_eq, List.isPrefixOf_iff_prefix, List.isSuffixOf_iff_suffix]
  refine ⟨by simp, ⟨s ++ b, by simp⟩, ⟨a ++ s, by simp⟩⟩

theorem star_odd (a : List UInt8) (r : List Ch) : (pieces (chq true a ++ (42, false) :: r)).any Piece.odd = true := by
  rw [pieces_quoted, pieces_star, List.any_append, List.any_cons]
  simp [Piece.odd]

theorem lits_odd (a : List UInt8) : (a.map Piece.lit).any Piece.odd = false := by
  induction a with
  | nil => rfl
  | cons b a ih => simp [Piece.odd]
end Go.Proofs.Ythbnnlhkcaomlaa.Gl
