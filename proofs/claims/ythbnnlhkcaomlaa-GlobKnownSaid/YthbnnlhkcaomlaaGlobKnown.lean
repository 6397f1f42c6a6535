/- GlobKnown answers true: the walk of the chapter's examples. -/
import Derived.Test.YthbnnlhkcaomlaaGlobSteps2
import Derived.KernelRfl
namespace Go.Proofs.Ythbnnlhkcaomlaa.Gl
open Go.RowKit Go.Shelf Go.Proofs.YthbnnlhkcaomlaaW.PrintWords

def knownSp : List Spec := [.eq (.bool true), .eq (.bool true), .row [⟨⟨#[91, 94, 97, 45, 99, 93]⟩, false, false⟩], .str [⟨#[100]⟩, ⟨#[94]⟩, ⟨#[33]⟩], .str [⟨#[97]⟩, ⟨#[]⟩, ⟨#[100, 100]⟩], .eq (.bool true), .eq (.bool true), .eq (.bool true), .row [⟨⟨#[91, 99, 45, 97, 93]⟩, false, false⟩], .str [⟨#[97]⟩, ⟨#[98]⟩, ⟨#[99]⟩, ⟨#[45]⟩], .eq (.bool true), .eq (.bool true), .eq (.bool true), .row [⟨⟨#[91, 97, 45, 99, 45, 101, 93]⟩, false, false⟩], .str [⟨#[97]⟩, ⟨#[98]⟩, ⟨#[99]⟩, ⟨#[45]⟩, ⟨#[101]⟩], .str [⟨#[100]⟩], .eq (.bool true), .eq (.bool true), .eq (.bool true), .row [⟨⟨#[91, 33, 93, 93]⟩, false, false⟩], .str [⟨#[97]⟩, ⟨#[91]⟩], .str [⟨#[93]⟩], .eq (.bool true), .eq (.bool true), .eq (.bool true), .row [⟨⟨#[91, 93]⟩, false, false⟩], .str [⟨#[91, 93]⟩], .str [⟨#[93]⟩], .eq (.bool true), .eq (.bool true), .eq (.bool true), .row [⟨⟨#[91, 33, 93]⟩, false, false⟩], .str [⟨#[91, 33, 93]⟩], .str [⟨#[97]⟩], .eq (.bool true), .eq (.bool true), .eq (.bool true), .row [⟨⟨#[91, 91, 93]⟩, false, false⟩], .str [⟨#[91]⟩], .str [⟨#[93]⟩], .eq (.bool true), .eq (.bool true), .eq (.bool true), .row [⟨⟨#[]⟩, false, false⟩, ⟨⟨#[91]⟩, true, false⟩, ⟨⟨#[97, 93]⟩, false, false⟩], .str [⟨#[91, 97, 93]⟩], .str [⟨#[97]⟩], .eq (.bool true), .eq (.bool true), .eq (.bool true), .row [⟨⟨#[91]⟩, false, false⟩, ⟨⟨#[33]⟩, true, false⟩, ⟨⟨#[97, 93]⟩, false, false⟩], .str [⟨#[33]⟩, ⟨#[97]⟩], .str [⟨#[98]⟩], .eq (.bool true), .eq (.bool true), .eq (.bool true), .row [⟨⟨#[42, 97, 42, 98, 42]⟩, false, false⟩], .str [⟨#[97, 98]⟩, ⟨#[120, 97, 121, 98, 122]⟩], .str [⟨#[98, 97]⟩], .eq (.bool true), .eq (.bool true), .eq (.bool true), .row [⟨⟨#[42, 42, 42]⟩, false, false⟩], .str [⟨#[]⟩, ⟨#[97, 98, 99]⟩], .eq (.bool true), .eq (.bool true), .eq (.bool true), .row [⟨⟨#[97, 63, 99, 42]⟩, false, false⟩], .str [⟨#[97, 98, 99]⟩, ⟨#[97, 47, 99, 100]⟩], .str [⟨#[97, 99]⟩], .eq (.bool true), .eq (.bool true), .eq (.bool true), .str [⟨#[]⟩], .str [⟨#[97]⟩], .eq (.bool true), .eq (.bool true), .eq (.bool true), .row [⟨⟨#[91, 42, 93, 120]⟩, false, false⟩], .str [⟨#[42, 120]⟩], .str [⟨#[97, 120]⟩], .eq (.bool true), .eq (.bool true), .eq (.bool true), .row [⟨⟨#[91, 97]⟩, false, false⟩], .eq (.bool false), .eq (.bool true), .eq (.bool true), .eq (.bool true), .row [⟨⟨#[97, 91, 98, 93]⟩, false, false⟩], .eq (.bool true), .eq (.bool true), .eq (.bool true), .row [⟨⟨#[42, 63, 91, 97, 93]⟩, true, false⟩], .eq (.bool false), .eq (.bool true), .eq (.bool true), .eq (.bool true), .row [⟨⟨#[120, 63]⟩, false, false⟩], .eq (.bool true), .eq (.bool true), .eq (.bool true), .eq (.bool false), .eq (.bool true), .eq (.bool true), .eq (.bool true), .row [⟨⟨#[97]⟩, false, false⟩, ⟨⟨#[98]⟩, true, false⟩, ⟨⟨#[99]⟩, false, false⟩], .eq (.string ⟨#[97, 98, 99]⟩), .eq (.bool true), .eq (.bool true), .eq (.bool true), .row [⟨⟨#[91, 128, 45, 255, 93]⟩, false, false⟩], .str [⟨#[128]⟩, ⟨#[255]⟩], .str [⟨#[97]⟩], .eq (.bool true), .eq (.bool true), .eq (.bool true), .eq (.string ⟨#[42, 97, 42, 97, 42, 97, 42, 97, 42, 97, 42, 97, 42, 97, 42, 97, 42, 97, 42, 97, 42, 97, 42, 97]⟩), .eq (.string ⟨#[42, 97, 42, 97, 42, 97, 42, 97, 42, 97, 42, 97, 42, 97, 42, 97, 42, 97, 42, 97, 42, 97, 42, 97, 42, 98]⟩), .row [⟨⟨#[42, 97, 42, 97, 42, 97, 42, 97, 42, 97, 42, 97, 42, 97, 42, 97, 42, 97, 42, 97, 42, 97, 42, 97, 42, 98]⟩, false, false⟩], .eq (.string ⟨#[97, 97, 97, 97, 97, 97, 97, 97, 97, 97, 97, 97, 97, 97, 97, 97, 97, 97, 97, 97, 97, 97, 97, 97, 97, 97, 97, 97, 97, 97, 97, 97, 97, 97, 97, 97, 97, 97, 97, 97]⟩), .str [⟨#[97, 97, 97, 97, 97, 97, 97, 97, 97, 97, 97, 97, 97, 97, 97, 97, 97, 97, 97, 97, 97, 97, 97, 97, 97, 97, 97, 97, 97, 97, 97, 97, 97, 97, 97, 97, 97, 97, 97, 97]⟩], .eq (.bool true), .eq (.bool true), .eq (.bool true)]
def knownDs : List Tmp := [1, 2, 3, 4, 5, 6, 7, 8, 9, 10, 11, 12, 13, 14, 15, 16, 17, 18, 19, 20, 21, 22, 23, 24, 25, 26, 27, 28, 29, 30, 31, 32, 33, 34, 35, 36, 37, 38, 39, 40, 41, 42, 43, 44, 45, 46, 47, 48, 49, 50, 51, 52, 53, 54, 55, 56, 57, 58, 59, 60, 61, 62, 63, 64, 65, 66, 67, 68, 69, 70, 71, 72, 73, 74, 75, 76, 77, 78, 79, 80, 81, 82, 83, 84, 85, 86, 87, 88, 89, 90, 91, 92, 93, 94, 95, 96, 97, 98, 99, 100, 101, 102, 103, 104, 105, 106, 107, 108, 109, 110, 111, 112, 113, 114, 115, 116, 117, 118, 119, 120, 121, 122, 123, 0]
def lastP : List Piece := [.star, .lit 97, .star, .lit 97, .star, .lit 97, .star, .lit 97, .star, .lit 97, .star, .lit 97, .star, .lit 97, .star, .lit 97, .star, .lit 97, .star, .lit 97, .star, .lit 97, .star, .lit 97, .star]

set_option maxRecDepth 100000 in
set_option maxHeartbeats 8000000 in
theorem known_walk (w : World) : Calls Try.prog 9 #[] w fun e w' => e = .returned (.bool true) ∧ Below w.heap.size w w' := by
  refine (callsIn_wide (n := 4)).1 ?_
  refine callsIn_of_wp Try.func9 rfl trivial ?_ rfl
  simp only [Try.ntmps9, List.size_toArray, List.length_nil, Nat.reduceSub, Array.replicate_succ, Array.replicate_zero, List.push_toArray, List.append_toArray, List.nil_append, List.cons_append]
  iterate 10 gi_step
  refine wpIn_region_specL 124 knownDs ?h1 ?h2 (by rfl) (specS knownSp) (specS_below knownSp) ?st ?en
  case h1 => kernel_rfl
  case h2 => kernel_rfl
  case st =>
    refine StepsOk.with (by kernel_rfl) (fun hdB => ?_)
    refine StepsOk.cons (step_works hdB 0 0 (by rfl) (.inl rfl) (by rfl)) ?_
    refine StepsOk.cons (step_move hdB 0 0 (.bool true) (by rfl) (.inl rfl) (is_tmp 0 (by rfl) (by rfl) (by rfl)) (by rfl)) ?_
    refine StepsOk.cons (step_bare hdB 1 2 ⟨#[91, 94, 97, 45, 99, 93]⟩ (by rfl) (.inr (by rfl)) (is_const _) (by rfl)) ?_
    refine StepsOk.cons (step_str3 hdB 1 2 ⟨#[100]⟩ ⟨#[94]⟩ ⟨#[33]⟩ (by rfl) (.inr (by rfl)) (is_const _) (is_const _) (is_const _) (by rfl)) ?_
    refine StepsOk.cons (step_str3 hdB 1 2 ⟨#[97]⟩ ⟨#[]⟩ ⟨#[100, 100]⟩ (by rfl) (.inr (by rfl)) (is_const _) (is_const _) (is_const _) (by rfl)) ?_
    refine StepsOk.cons (step_rows hdB 1 2 [⟨⟨#[91, 94, 97, 45, 99, 93]⟩, false, false⟩] [⟨#[100]⟩, ⟨#[94]⟩, ⟨#[33]⟩] [⟨#[97]⟩, ⟨#[]⟩, ⟨#[100, 100]⟩] (by rfl) (.inr (by rfl)) (is_tmp 2 (by rfl) (by rfl) (by rfl)) (is_tmp 3 (by rfl) (by rfl) (by rfl)) (is_tmp 4 (by rfl) (by rfl) (by rfl)) (by kernel_rfl) (by rfl)) ?_
    refine StepsOk.cons (step_pick hdB 0 0 (by rfl) (.inl rfl) (is_tmp 1 (by rfl) (by rfl) (by rfl)) (is_tmp 5 (by rfl) (by rfl) (by rfl)) (by rfl)) ?_
    refine StepsOk.cons (step_move hdB 0 0 (.bool true) (by rfl) (.inl rfl) (is_tmp 6 (by rfl) (by rfl) (by rfl)) (by rfl)) ?_
    refine StepsOk.cons (step_bare hdB 7 8 ⟨#[91, 99, 45, 97, 93]⟩ (by rfl) (.inr (by rfl)) (is_const _) (by rfl)) ?_
    refine StepsOk.cons (step_str4 hdB 7 8 ⟨#[97]⟩ ⟨#[98]⟩ ⟨#[99]⟩ ⟨#[45]⟩ (by rfl) (.inr (by rfl)) (is_const _) (is_const _) (is_const _) (is_const _) (by rfl)) ?_
    refine StepsOk.cons (step_rows hdB 7 8 [⟨⟨#[91, 99, 45, 97, 93]⟩, false, false⟩] [] [⟨#[97]⟩, ⟨#[98]⟩, ⟨#[99]⟩, ⟨#[45]⟩] (by rfl) (.inr (by rfl)) (is_tmp 8 (by rfl) (by rfl) (by rfl)) is_nilstr (is_tmp 9 (by rfl) (by rfl) (by rfl)) (by kernel_rfl) (by rfl)) ?_
    refine StepsOk.cons (step_pick hdB 0 0 (by rfl) (.inl rfl) (is_tmp 7 (by rfl) (by rfl) (by rfl)) (is_tmp 10 (by rfl) (by rfl) (by rfl)) (by rfl)) ?_
    refine StepsOk.cons (step_move hdB 0 0 (.bool true) (by rfl) (.inl rfl) (is_tmp 11 (by rfl) (by rfl) (by rfl)) (by rfl)) ?_
    refine StepsOk.cons (step_bare hdB 12 13 ⟨#[91, 97, 45, 99, 45, 101, 93]⟩ (by rfl) (.inr (by rfl)) (is_const _) (by rfl)) ?_
    refine StepsOk.cons (step_str5 hdB 12 13 ⟨#[97]⟩ ⟨#[98]⟩ ⟨#[99]⟩ ⟨#[45]⟩ ⟨#[101]⟩ (by rfl) (.inr (by rfl)) (is_const _) (is_const _) (is_const _) (is_const _) (is_const _) (by rfl)) ?_
    refine StepsOk.cons (step_str1 hdB 12 13 ⟨#[100]⟩ (by rfl) (.inr (by rfl)) (is_const _) (by rfl)) ?_
    refine StepsOk.cons (step_rows hdB 12 13 [⟨⟨#[91, 97, 45, 99, 45, 101, 93]⟩, false, false⟩] [⟨#[97]⟩, ⟨#[98]⟩, ⟨#[99]⟩, ⟨#[45]⟩, ⟨#[101]⟩] [⟨#[100]⟩] (by rfl) (.inr (by rfl)) (is_tmp 13 (by rfl) (by rfl) (by rfl)) (is_tmp 14 (by rfl) (by rfl) (by rfl)) (is_tmp 15 (by rfl) (by rfl) (by rfl)) (by kernel_rfl) (by rfl)) ?_
    refine StepsOk.cons (step_pick hdB 0 0 (by rfl) (.inl rfl) (is_tmp 12 (by rfl) (by rfl) (by rfl)) (is_tmp 16 (by rfl) (by rfl) (by rfl)) (by rfl)) ?_
    refine StepsOk.cons (step_move hdB 0 0 (.bool true) (by rfl) (.inl rfl) (is_tmp 17 (by rfl) (by rfl) (by rfl)) (by rfl)) ?_
    refine StepsOk.cons (step_bare hdB 18 19 ⟨#[91, 33, 93, 93]⟩ (by rfl) (.inr (by rfl)) (is_const _) (by rfl)) ?_
    refine StepsOk.cons (step_str2 hdB 18 19 ⟨#[97]⟩ ⟨#[91]⟩ (by rfl) (.inr (by rfl)) (is_const _) (is_const _) (by rfl)) ?_
    refine StepsOk.cons (step_str1 hdB 18 19 ⟨#[93]⟩ (by rfl) (.inr (by rfl)) (is_const _) (by rfl)) ?_
    refine StepsOk.cons (step_rows hdB 18 19 [⟨⟨#[91, 33, 93, 93]⟩, false, false⟩] [⟨#[97]⟩, ⟨#[91]⟩] [⟨#[93]⟩] (by rfl) (.inr (by rfl)) (is_tmp 19 (by rfl) (by rfl) (by rfl)) (is_tmp 20 (by rfl) (by rfl) (by rfl)) (is_tmp 21 (by rfl) (by rfl) (by rfl)) (by kernel_rfl) (by rfl)) ?_
    refine StepsOk.cons (step_pick hdB 0 0 (by rfl) (.inl rfl) (is_tmp 18 (by rfl) (by rfl) (by rfl)) (is_tmp 22 (by rfl) (by rfl) (by rfl)) (by rfl)) ?_
    refine StepsOk.cons (step_move hdB 0 0 (.bool true) (by rfl) (.inl rfl) (is_tmp 23 (by rfl) (by rfl) (by rfl)) (by rfl)) ?_
    refine StepsOk.cons (step_bare hdB 24 25 ⟨#[91, 93]⟩ (by rfl) (.inr (by rfl)) (is_const _) (by rfl)) ?_
    refine StepsOk.cons (step_str1 hdB 24 25 ⟨#[91, 93]⟩ (by rfl) (.inr (by rfl)) (is_const _) (by rfl)) ?_
    refine StepsOk.cons (step_str1 hdB 24 25 ⟨#[93]⟩ (by rfl) (.inr (by rfl)) (is_const _) (by rfl)) ?_
    refine StepsOk.cons (step_rows hdB 24 25 [⟨⟨#[91, 93]⟩, false, false⟩] [⟨#[91, 93]⟩] [⟨#[93]⟩] (by rfl) (.inr (by rfl)) (is_tmp 25 (by rfl) (by rfl) (by rfl)) (is_tmp 26 (by rfl) (by rfl) (by rfl)) (is_tmp 27 (by rfl) (by rfl) (by rfl)) (by kernel_rfl) (by rfl)) ?_
    refine StepsOk.cons (step_pick hdB 0 0 (by rfl) (.inl rfl) (is_tmp 24 (by rfl) (by rfl) (by rfl)) (is_tmp 28 (by rfl) (by rfl) (by rfl)) (by rfl)) ?_
    refine StepsOk.cons (step_move hdB 0 0 (.bool true) (by rfl) (.inl rfl) (is_tmp 29 (by rfl) (by rfl) (by rfl)) (by rfl)) ?_
    refine StepsOk.cons (step_bare hdB 30 31 ⟨#[91, 33, 93]⟩ (by rfl) (.inr (by rfl)) (is_const _) (by rfl)) ?_
    refine StepsOk.cons (step_str1 hdB 30 31 ⟨#[91, 33, 93]⟩ (by rfl) (.inr (by rfl)) (is_const _) (by rfl)) ?_
    refine StepsOk.cons (step_str1 hdB 30 31 ⟨#[97]⟩ (by rfl) (.inr (by rfl)) (is_const _) (by rfl)) ?_
    refine StepsOk.cons (step_rows hdB 30 31 [⟨⟨#[91, 33, 93]⟩, false, false⟩] [⟨#[91, 33, 93]⟩] [⟨#[97]⟩] (by rfl) (.inr (by rfl)) (is_tmp 31 (by rfl) (by rfl) (by rfl)) (is_tmp 32 (by rfl) (by rfl) (by rfl)) (is_tmp 33 (by rfl) (by rfl) (by rfl)) (by kernel_rfl) (by rfl)) ?_
    refine StepsOk.cons (step_pick hdB 0 0 (by rfl) (.inl rfl) (is_tmp 30 (by rfl) (by rfl) (by rfl)) (is_tmp 34 (by rfl) (by rfl) (by rfl)) (by rfl)) ?_
    refine StepsOk.cons (step_move hdB 0 0 (.bool true) (by rfl) (.inl rfl) (is_tmp 35 (by rfl) (by rfl) (by rfl)) (by rfl)) ?_
    refine StepsOk.cons (step_bare hdB 36 37 ⟨#[91, 91, 93]⟩ (by rfl) (.inr (by rfl)) (is_const _) (by rfl)) ?_
    refine StepsOk.cons (step_str1 hdB 36 37 ⟨#[91]⟩ (by rfl) (.inr (by rfl)) (is_const _) (by rfl)) ?_
    refine StepsOk.cons (step_str1 hdB 36 37 ⟨#[93]⟩ (by rfl) (.inr (by rfl)) (is_const _) (by rfl)) ?_
    refine StepsOk.cons (step_rows hdB 36 37 [⟨⟨#[91, 91, 93]⟩, false, false⟩] [⟨#[91]⟩] [⟨#[93]⟩] (by rfl) (.inr (by rfl)) (is_tmp 37 (by rfl) (by rfl) (by rfl)) (is_tmp 38 (by rfl) (by rfl) (by rfl)) (is_tmp 39 (by rfl) (by rfl) (by rfl)) (by kernel_rfl) (by rfl)) ?_
    refine StepsOk.cons (step_pick hdB 0 0 (by rfl) (.inl rfl) (is_tmp 36 (by rfl) (by rfl) (by rfl)) (is_tmp 40 (by rfl) (by rfl) (by rfl)) (by rfl)) ?_
    refine StepsOk.cons (step_move hdB 0 0 (.bool true) (by rfl) (.inl rfl) (is_tmp 41 (by rfl) (by rfl) (by rfl)) (by rfl)) ?_
    refine StepsOk.cons (step_three hdB 42 43 ⟨#[]⟩ ⟨#[91]⟩ ⟨#[97, 93]⟩ (by rfl) (.inr (by rfl)) (is_const _) (is_const _) (is_const _) (by rfl)) ?_
    refine StepsOk.cons (step_str1 hdB 42 43 ⟨#[91, 97, 93]⟩ (by rfl) (.inr (by rfl)) (is_const _) (by rfl)) ?_
    refine StepsOk.cons (step_str1 hdB 42 43 ⟨#[97]⟩ (by rfl) (.inr (by rfl)) (is_const _) (by rfl)) ?_
    refine StepsOk.cons (step_rows hdB 42 43 [⟨⟨#[]⟩, false, false⟩, ⟨⟨#[91]⟩, true, false⟩, ⟨⟨#[97, 93]⟩, false, false⟩] [⟨#[91, 97, 93]⟩] [⟨#[97]⟩] (by rfl) (.inr (by rfl)) (is_tmp 43 (by rfl) (by rfl) (by rfl)) (is_tmp 44 (by rfl) (by rfl) (by rfl)) (is_tmp 45 (by rfl) (by rfl) (by rfl)) (by kernel_rfl) (by rfl)) ?_
    refine StepsOk.cons (step_pick hdB 0 0 (by rfl) (.inl rfl) (is_tmp 42 (by rfl) (by rfl) (by rfl)) (is_tmp 46 (by rfl) (by rfl) (by rfl)) (by rfl)) ?_
    refine StepsOk.cons (step_move hdB 0 0 (.bool true) (by rfl) (.inl rfl) (is_tmp 47 (by rfl) (by rfl) (by rfl)) (by rfl)) ?_
    refine StepsOk.cons (step_three hdB 48 49 ⟨#[91]⟩ ⟨#[33]⟩ ⟨#[97, 93]⟩ (by rfl) (.inr (by rfl)) (is_const _) (is_const _) (is_const _) (by rfl)) ?_
    refine StepsOk.cons (step_str2 hdB 48 49 ⟨#[33]⟩ ⟨#[97]⟩ (by rfl) (.inr (by rfl)) (is_const _) (is_const _) (by rfl)) ?_
    refine StepsOk.cons (step_str1 hdB 48 49 ⟨#[98]⟩ (by rfl) (.inr (by rfl)) (is_const _) (by rfl)) ?_
    refine StepsOk.cons (step_rows hdB 48 49 [⟨⟨#[91]⟩, false, false⟩, ⟨⟨#[33]⟩, true, false⟩, ⟨⟨#[97, 93]⟩, false, false⟩] [⟨#[33]⟩, ⟨#[97]⟩] [⟨#[98]⟩] (by rfl) (.inr (by rfl)) (is_tmp 49 (by rfl) (by rfl) (by rfl)) (is_tmp 50 (by rfl) (by rfl) (by rfl)) (is_tmp 51 (by rfl) (by rfl) (by rfl)) (by kernel_rfl) (by rfl)) ?_
    refine StepsOk.cons (step_pick hdB 0 0 (by rfl) (.inl rfl) (is_tmp 48 (by rfl) (by rfl) (by rfl)) (is_tmp 52 (by rfl) (by rfl) (by rfl)) (by rfl)) ?_
    refine StepsOk.cons (step_move hdB 0 0 (.bool true) (by rfl) (.inl rfl) (is_tmp 53 (by rfl) (by rfl) (by rfl)) (by rfl)) ?_
    refine StepsOk.cons (step_bare hdB 54 55 ⟨#[42, 97, 42, 98, 42]⟩ (by rfl) (.inr (by rfl)) (is_const _) (by rfl)) ?_
    refine StepsOk.cons (step_str2 hdB 54 55 ⟨#[97, 98]⟩ ⟨#[120, 97, 121, 98, 122]⟩ (by rfl) (.inr (by rfl)) (is_const _) (is_const _) (by rfl)) ?_
    refine StepsOk.cons (step_str1 hdB 54 55 ⟨#[98, 97]⟩ (by rfl) (.inr (by rfl)) (is_const _) (by rfl)) ?_
    refine StepsOk.cons (step_rows hdB 54 55 [⟨⟨#[42, 97, 42, 98, 42]⟩, false, false⟩] [⟨#[97, 98]⟩, ⟨#[120, 97, 121, 98, 122]⟩] [⟨#[98, 97]⟩] (by rfl) (.inr (by rfl)) (is_tmp 55 (by rfl) (by rfl) (by rfl)) (is_tmp 56 (by rfl) (by rfl) (by rfl)) (is_tmp 57 (by rfl) (by rfl) (by rfl)) (by kernel_rfl) (by rfl)) ?_
    refine StepsOk.cons (step_pick hdB 0 0 (by rfl) (.inl rfl) (is_tmp 54 (by rfl) (by rfl) (by rfl)) (is_tmp 58 (by rfl) (by rfl) (by rfl)) (by rfl)) ?_
    refine StepsOk.cons (step_move hdB 0 0 (.bool true) (by rfl) (.inl rfl) (is_tmp 59 (by rfl) (by rfl) (by rfl)) (by rfl)) ?_
    refine StepsOk.cons (step_bare hdB 60 61 ⟨#[42, 42, 42]⟩ (by rfl) (.inr (by rfl)) (is_const _) (by rfl)) ?_
    refine StepsOk.cons (step_str2 hdB 60 61 ⟨#[]⟩ ⟨#[97, 98, 99]⟩ (by rfl) (.inr (by rfl)) (is_const _) (is_const _) (by rfl)) ?_
    refine StepsOk.cons (step_rows hdB 60 61 [⟨⟨#[42, 42, 42]⟩, false, false⟩] [⟨#[]⟩, ⟨#[97, 98, 99]⟩] [] (by rfl) (.inr (by rfl)) (is_tmp 61 (by rfl) (by rfl) (by rfl)) (is_tmp 62 (by rfl) (by rfl) (by rfl)) is_nilstr (by kernel_rfl) (by rfl)) ?_
    refine StepsOk.cons (step_pick hdB 0 0 (by rfl) (.inl rfl) (is_tmp 60 (by rfl) (by rfl) (by rfl)) (is_tmp 63 (by rfl) (by rfl) (by rfl)) (by rfl)) ?_
    refine StepsOk.cons (step_move hdB 0 0 (.bool true) (by rfl) (.inl rfl) (is_tmp 64 (by rfl) (by rfl) (by rfl)) (by rfl)) ?_
    refine StepsOk.cons (step_bare hdB 65 66 ⟨#[97, 63, 99, 42]⟩ (by rfl) (.inr (by rfl)) (is_const _) (by rfl)) ?_
    refine StepsOk.cons (step_str2 hdB 65 66 ⟨#[97, 98, 99]⟩ ⟨#[97, 47, 99, 100]⟩ (by rfl) (.inr (by rfl)) (is_const _) (is_const _) (by rfl)) ?_
    refine StepsOk.cons (step_str1 hdB 65 66 ⟨#[97, 99]⟩ (by rfl) (.inr (by rfl)) (is_const _) (by rfl)) ?_
    refine StepsOk.cons (step_rows hdB 65 66 [⟨⟨#[97, 63, 99, 42]⟩, false, false⟩] [⟨#[97, 98, 99]⟩, ⟨#[97, 47, 99, 100]⟩] [⟨#[97, 99]⟩] (by rfl) (.inr (by rfl)) (is_tmp 66 (by rfl) (by rfl) (by rfl)) (is_tmp 67 (by rfl) (by rfl) (by rfl)) (is_tmp 68 (by rfl) (by rfl) (by rfl)) (by kernel_rfl) (by rfl)) ?_
    refine StepsOk.cons (step_pick hdB 0 0 (by rfl) (.inl rfl) (is_tmp 65 (by rfl) (by rfl) (by rfl)) (is_tmp 69 (by rfl) (by rfl) (by rfl)) (by rfl)) ?_
    refine StepsOk.cons (step_move hdB 0 0 (.bool true) (by rfl) (.inl rfl) (is_tmp 70 (by rfl) (by rfl) (by rfl)) (by rfl)) ?_
    refine StepsOk.cons (step_str1 hdB 71 72 ⟨#[]⟩ (by rfl) (.inr (by rfl)) (is_const _) (by rfl)) ?_
    refine StepsOk.cons (step_str1 hdB 71 72 ⟨#[97]⟩ (by rfl) (.inr (by rfl)) (is_const _) (by rfl)) ?_
    refine StepsOk.cons (step_rows hdB 71 72 [] [⟨#[]⟩] [⟨#[97]⟩] (by rfl) (.inr (by rfl)) is_nilrow (is_tmp 72 (by rfl) (by rfl) (by rfl)) (is_tmp 73 (by rfl) (by rfl) (by rfl)) (by kernel_rfl) (by rfl)) ?_
    refine StepsOk.cons (step_pick hdB 0 0 (by rfl) (.inl rfl) (is_tmp 71 (by rfl) (by rfl) (by rfl)) (is_tmp 74 (by rfl) (by rfl) (by rfl)) (by rfl)) ?_
    refine StepsOk.cons (step_move hdB 0 0 (.bool true) (by rfl) (.inl rfl) (is_tmp 75 (by rfl) (by rfl) (by rfl)) (by rfl)) ?_
    refine StepsOk.cons (step_bare hdB 76 77 ⟨#[91, 42, 93, 120]⟩ (by rfl) (.inr (by rfl)) (is_const _) (by rfl)) ?_
    refine StepsOk.cons (step_str1 hdB 76 77 ⟨#[42, 120]⟩ (by rfl) (.inr (by rfl)) (is_const _) (by rfl)) ?_
    refine StepsOk.cons (step_str1 hdB 76 77 ⟨#[97, 120]⟩ (by rfl) (.inr (by rfl)) (is_const _) (by rfl)) ?_
    refine StepsOk.cons (step_rows hdB 76 77 [⟨⟨#[91, 42, 93, 120]⟩, false, false⟩] [⟨#[42, 120]⟩] [⟨#[97, 120]⟩] (by rfl) (.inr (by rfl)) (is_tmp 77 (by rfl) (by rfl) (by rfl)) (is_tmp 78 (by rfl) (by rfl) (by rfl)) (is_tmp 79 (by rfl) (by rfl) (by rfl)) (by kernel_rfl) (by rfl)) ?_
    refine StepsOk.cons (step_pick hdB 0 0 (by rfl) (.inl rfl) (is_tmp 76 (by rfl) (by rfl) (by rfl)) (is_tmp 80 (by rfl) (by rfl) (by rfl)) (by rfl)) ?_
    refine StepsOk.cons (step_move hdB 0 0 (.bool true) (by rfl) (.inl rfl) (is_tmp 81 (by rfl) (by rfl) (by rfl)) (by rfl)) ?_
    refine StepsOk.cons (step_bare hdB 82 83 ⟨#[91, 97]⟩ (by rfl) (.inr (by rfl)) (is_const _) (by rfl)) ?_
    refine StepsOk.cons (step_magic hdB 82 83 [⟨⟨#[91, 97]⟩, false, false⟩] false (by rfl) (.inr (by rfl)) (is_tmp 83 (by rfl) (by rfl) (by rfl)) (by kernel_rfl) (by kernel_rfl) (by rfl)) ?_
    refine StepsOk.cons (step_not hdB 82 83 (by rfl) (.inr (by rfl)) (is_tmp 84 (by rfl) (by rfl) (by rfl)) (by rfl)) ?_
    refine StepsOk.cons (step_pick hdB 0 0 (by rfl) (.inl rfl) (is_tmp 82 (by rfl) (by rfl) (by rfl)) (is_tmp 85 (by rfl) (by rfl) (by rfl)) (by rfl)) ?_
    refine StepsOk.cons (step_move hdB 0 0 (.bool true) (by rfl) (.inl rfl) (is_tmp 86 (by rfl) (by rfl) (by rfl)) (by rfl)) ?_
    refine StepsOk.cons (step_bare hdB 87 88 ⟨#[97, 91, 98, 93]⟩ (by rfl) (.inr (by rfl)) (is_const _) (by rfl)) ?_
    refine StepsOk.cons (step_magic hdB 87 88 [⟨⟨#[97, 91, 98, 93]⟩, false, false⟩] true (by rfl) (.inr (by rfl)) (is_tmp 88 (by rfl) (by rfl) (by rfl)) (by kernel_rfl) (by kernel_rfl) (by rfl)) ?_
    refine StepsOk.cons (step_pick hdB 0 0 (by rfl) (.inl rfl) (is_tmp 87 (by rfl) (by rfl) (by rfl)) (is_tmp 89 (by rfl) (by rfl) (by rfl)) (by rfl)) ?_
    refine StepsOk.cons (step_move hdB 0 0 (.bool true) (by rfl) (.inl rfl) (is_tmp 90 (by rfl) (by rfl) (by rfl)) (by rfl)) ?_
    refine StepsOk.cons (step_quoted hdB 91 92 ⟨#[42, 63, 91, 97, 93]⟩ (by rfl) (.inr (by rfl)) (is_const _) (by rfl)) ?_
    refine StepsOk.cons (step_magic hdB 91 92 [⟨⟨#[42, 63, 91, 97, 93]⟩, true, false⟩] false (by rfl) (.inr (by rfl)) (is_tmp 92 (by rfl) (by rfl) (by rfl)) (by kernel_rfl) (by kernel_rfl) (by rfl)) ?_
    refine StepsOk.cons (step_not hdB 91 92 (by rfl) (.inr (by rfl)) (is_tmp 93 (by rfl) (by rfl) (by rfl)) (by rfl)) ?_
    refine StepsOk.cons (step_pick hdB 0 0 (by rfl) (.inl rfl) (is_tmp 91 (by rfl) (by rfl) (by rfl)) (is_tmp 94 (by rfl) (by rfl) (by rfl)) (by rfl)) ?_
    refine StepsOk.cons (step_move hdB 0 0 (.bool true) (by rfl) (.inl rfl) (is_tmp 95 (by rfl) (by rfl) (by rfl)) (by rfl)) ?_
    refine StepsOk.cons (step_bare hdB 96 97 ⟨#[120, 63]⟩ (by rfl) (.inr (by rfl)) (is_const _) (by rfl)) ?_
    refine StepsOk.cons (step_magic hdB 96 97 [⟨⟨#[120, 63]⟩, false, false⟩] true (by rfl) (.inr (by rfl)) (is_tmp 97 (by rfl) (by rfl) (by rfl)) (by kernel_rfl) (by kernel_rfl) (by rfl)) ?_
    refine StepsOk.cons (step_pick hdB 0 0 (by rfl) (.inl rfl) (is_tmp 96 (by rfl) (by rfl) (by rfl)) (is_tmp 98 (by rfl) (by rfl) (by rfl)) (by rfl)) ?_
    refine StepsOk.cons (step_move hdB 0 0 (.bool true) (by rfl) (.inl rfl) (is_tmp 99 (by rfl) (by rfl) (by rfl)) (by rfl)) ?_
    refine StepsOk.cons (step_magic hdB 100 101 [] false (by rfl) (.inr (by rfl)) is_nilrow (by kernel_rfl) (by kernel_rfl) (by rfl)) ?_
    refine StepsOk.cons (step_not hdB 100 101 (by rfl) (.inr (by rfl)) (is_tmp 101 (by rfl) (by rfl) (by rfl)) (by rfl)) ?_
    refine StepsOk.cons (step_pick hdB 0 0 (by rfl) (.inl rfl) (is_tmp 100 (by rfl) (by rfl) (by rfl)) (is_tmp 102 (by rfl) (by rfl) (by rfl)) (by rfl)) ?_
    refine StepsOk.cons (step_move hdB 0 0 (.bool true) (by rfl) (.inl rfl) (is_tmp 103 (by rfl) (by rfl) (by rfl)) (by rfl)) ?_
    refine StepsOk.cons (step_three hdB 104 105 ⟨#[97]⟩ ⟨#[98]⟩ ⟨#[99]⟩ (by rfl) (.inr (by rfl)) (is_const _) (is_const _) (is_const _) (by rfl)) ?_
    refine StepsOk.cons (step_plain hdB 104 105 [⟨⟨#[97]⟩, false, false⟩, ⟨⟨#[98]⟩, true, false⟩, ⟨⟨#[99]⟩, false, false⟩] ⟨#[97, 98, 99]⟩ (by rfl) (.inr (by rfl)) (is_tmp 105 (by rfl) (by rfl) (by rfl)) (by kernel_rfl) (by kernel_rfl) (by rfl)) ?_
    refine StepsOk.cons (step_eqs hdB 104 105 ⟨#[97, 98, 99]⟩ (by rfl) (.inr (by rfl)) (is_tmp 106 (by rfl) (by rfl) (by rfl)) (is_const _) (by rfl)) ?_
    refine StepsOk.cons (step_pick hdB 0 0 (by rfl) (.inl rfl) (is_tmp 104 (by rfl) (by rfl) (by rfl)) (is_tmp 107 (by rfl) (by rfl) (by rfl)) (by rfl)) ?_
    refine StepsOk.cons (step_move hdB 0 0 (.bool true) (by rfl) (.inl rfl) (is_tmp 108 (by rfl) (by rfl) (by rfl)) (by rfl)) ?_
    refine StepsOk.cons (step_bare hdB 109 110 ⟨#[91, 128, 45, 255, 93]⟩ (by rfl) (.inr (by rfl)) (is_const _) (by rfl)) ?_
    refine StepsOk.cons (step_str2 hdB 109 110 ⟨#[128]⟩ ⟨#[255]⟩ (by rfl) (.inr (by rfl)) (is_const _) (is_const _) (by rfl)) ?_
    refine StepsOk.cons (step_str1 hdB 109 110 ⟨#[97]⟩ (by rfl) (.inr (by rfl)) (is_const _) (by rfl)) ?_
    refine StepsOk.cons (step_rows hdB 109 110 [⟨⟨#[91, 128, 45, 255, 93]⟩, false, false⟩] [⟨#[128]⟩, ⟨#[255]⟩] [⟨#[97]⟩] (by rfl) (.inr (by rfl)) (is_tmp 110 (by rfl) (by rfl) (by rfl)) (is_tmp 111 (by rfl) (by rfl) (by rfl)) (is_tmp 112 (by rfl) (by rfl) (by rfl)) (by kernel_rfl) (by rfl)) ?_
    refine StepsOk.cons (step_pick hdB 0 0 (by rfl) (.inl rfl) (is_tmp 109 (by rfl) (by rfl) (by rfl)) (is_tmp 113 (by rfl) (by rfl) (by rfl)) (by rfl)) ?_
    refine StepsOk.cons (step_move hdB 0 0 (.bool true) (by rfl) (.inl rfl) (is_tmp 114 (by rfl) (by rfl) (by rfl)) (by rfl)) ?_
    refine StepsOk.cons (step_repeat hdB 115 116 ⟨#[42, 97]⟩ 12 ⟨#[42, 97, 42, 97, 42, 97, 42, 97, 42, 97, 42, 97, 42, 97, 42, 97, 42, 97, 42, 97, 42, 97, 42, 97]⟩ (by rfl) (.inr (by rfl)) (is_const _) (is_const _) (by kernel_rfl) (by kernel_rfl) (by rfl)) ?_
    refine StepsOk.cons (step_adds hdB 115 116 ⟨#[42, 97, 42, 97, 42, 97, 42, 97, 42, 97, 42, 97, 42, 97, 42, 97, 42, 97, 42, 97, 42, 97, 42, 97]⟩ ⟨#[42, 98]⟩ ⟨#[42, 97, 42, 97, 42, 97, 42, 97, 42, 97, 42, 97, 42, 97, 42, 97, 42, 97, 42, 97, 42, 97, 42, 97, 42, 98]⟩ (by rfl) (.inr (by rfl)) (is_tmp 116 (by rfl) (by rfl) (by rfl)) (is_const _) (by kernel_rfl) (by kernel_rfl) (by rfl)) ?_
    refine StepsOk.cons (step_bare hdB 115 116 ⟨#[42, 97, 42, 97, 42, 97, 42, 97, 42, 97, 42, 97, 42, 97, 42, 97, 42, 97, 42, 97, 42, 97, 42, 97, 42, 98]⟩ (by rfl) (.inr (by rfl)) (is_tmp 117 (by rfl) (by rfl) (by rfl)) (by rfl)) ?_
    refine StepsOk.cons (step_repeat hdB 115 116 ⟨#[97]⟩ 40 ⟨#[97, 97, 97, 97, 97, 97, 97, 97, 97, 97, 97, 97, 97, 97, 97, 97, 97, 97, 97, 97, 97, 97, 97, 97, 97, 97, 97, 97, 97, 97, 97, 97, 97, 97, 97, 97, 97, 97, 97, 97]⟩ (by rfl) (.inr (by rfl)) (is_const _) (is_const _) (by kernel_rfl) (by kernel_rfl) (by rfl)) ?_
    refine StepsOk.cons (step_str1 hdB 115 116 ⟨#[97, 97, 97, 97, 97, 97, 97, 97, 97, 97, 97, 97, 97, 97, 97, 97, 97, 97, 97, 97, 97, 97, 97, 97, 97, 97, 97, 97, 97, 97, 97, 97, 97, 97, 97, 97, 97, 97, 97, 97]⟩ (by rfl) (.inr (by rfl)) (is_tmp 119 (by rfl) (by rfl) (by rfl)) (by rfl)) ?_
    refine StepsOk.cons (step_rows hdB 115 116 [⟨⟨#[42, 97, 42, 97, 42, 97, 42, 97, 42, 97, 42, 97, 42, 97, 42, 97, 42, 97, 42, 97, 42, 97, 42, 97, 42, 98]⟩, false, false⟩] [] [⟨#[97, 97, 97, 97, 97, 97, 97, 97, 97, 97, 97, 97, 97, 97, 97, 97, 97, 97, 97, 97, 97, 97, 97, 97, 97, 97, 97, 97, 97, 97, 97, 97, 97, 97, 97, 97, 97, 97, 97, 97]⟩] (by rfl) (.inr (by rfl)) (is_tmp 118 (by rfl) (by rfl) (by rfl)) is_nilstr (is_tmp 120 (by rfl) (by rfl) (by rfl)) (by kernel_rfl) (by rfl)) ?_
    refine StepsOk.cons (step_pick hdB 0 0 (by rfl) (.inl rfl) (is_tmp 115 (by rfl) (by rfl) (by rfl)) (is_tmp 121 (by rfl) (by rfl) (by rfl)) (by rfl)) ?_
    refine StepsOk.cons (step_assign hdB 0 0 (.bool true) (by rfl) (.inl rfl) (is_tmp 122 (by rfl) (by rfl) (by rfl)) (by rfl)) ?_
    exact trivial
  case en =>
    intro t W ht _ hS hb
    have h0 : t.getD 0 undef = .bool true := hS 123 0 (by rfl)
    gi_wp2
    go_ret
    exact ⟨congrArg Ending.returned h0, hb⟩
end Go.Proofs.Ythbnnlhkcaomlaa.Gl
