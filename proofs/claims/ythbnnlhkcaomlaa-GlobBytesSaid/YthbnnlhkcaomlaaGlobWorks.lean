/- The walk of the laws' works: the chapter's rows. -/
import Derived.Test.YthbnnlhkcaomlaaGlobSteps
import Derived.KernelRfl
namespace Go.Proofs.Ythbnnlhkcaomlaa.Gl
open Go.RowKit Go.Shelf Go.Proofs.YthbnnlhkcaomlaaW.PrintWords

theorem StepsOk.with {F : Fence} {n : Nat} {P : Program} {Q : Exit → Act → World → Prop} {L : List Oper} {ds : List Tmp} {m : Nat} {df : List Deferred} {base : Array Value} {S : Nat → World → Value → Prop}
    (h : dstB L ds m = true) (k : dstB L ds m = true → StepsOk F n P Q L ds m df base S 0 L) : StepsOk F n P Q L ds m df base S 0 L := k h

def worksSp : List Spec := [.row [⟨⟨#[97, 42, 99]⟩, false, false⟩], .str [⟨#[97, 99]⟩, ⟨#[97, 98, 98, 99]⟩], .str [⟨#[97]⟩, ⟨#[97, 99, 98]⟩], .eq (.bool true), .eq (.bool true), .row [⟨⟨#[42]⟩, false, false⟩], .str [⟨#[]⟩, ⟨#[120, 47, 121]⟩], .eq (.bool true), .eq (.bool true), .eq (.bool true), .row [⟨⟨#[63]⟩, false, false⟩], .str [⟨#[120]⟩, ⟨#[63]⟩], .str [⟨#[]⟩, ⟨#[120, 121]⟩], .eq (.bool true), .eq (.bool true), .eq (.bool true), .row [⟨⟨#[91, 97, 45, 99, 93, 120]⟩, false, false⟩], .str [⟨#[97, 120]⟩, ⟨#[99, 120]⟩], .str [⟨#[100, 120]⟩], .eq (.bool true), .eq (.bool true), .eq (.bool true), .row [⟨⟨#[91, 33, 97, 93, 120]⟩, false, false⟩], .str [⟨#[98, 120]⟩], .str [⟨#[97, 120]⟩], .eq (.bool true), .eq (.bool true), .eq (.bool true), .row [⟨⟨#[91, 93, 97, 93]⟩, false, false⟩], .str [⟨#[93]⟩, ⟨#[97]⟩], .str [⟨#[91]⟩], .eq (.bool true), .eq (.bool true), .eq (.bool true), .row [⟨⟨#[91, 97, 45, 93]⟩, false, false⟩], .str [⟨#[97]⟩, ⟨#[45]⟩], .str [⟨#[98]⟩], .eq (.bool true), .eq (.bool true), .eq (.bool true), .row [⟨⟨#[91, 45, 97, 93]⟩, false, false⟩], .str [⟨#[97]⟩, ⟨#[45]⟩], .str [⟨#[98]⟩], .eq (.bool true), .eq (.bool true), .eq (.bool true), .row [⟨⟨#[]⟩, false, false⟩, ⟨⟨#[42]⟩, true, false⟩, ⟨⟨#[97]⟩, false, false⟩], .str [⟨#[42, 97]⟩], .str [⟨#[120, 97]⟩], .eq (.bool true), .eq (.bool true), .eq (.bool true), .row [⟨⟨#[91, 97]⟩, false, false⟩, ⟨⟨#[45]⟩, true, false⟩, ⟨⟨#[99, 93]⟩, false, false⟩], .str [⟨#[97]⟩, ⟨#[45]⟩, ⟨#[99]⟩], .str [⟨#[98]⟩], .eq (.bool true), .eq (.bool true), .eq (.bool true), .row [⟨⟨#[91, 97]⟩, false, false⟩], .str [⟨#[91, 97]⟩], .str [⟨#[97]⟩], .eq (.bool true), .eq (.bool true), .eq (.bool true), .row [⟨⟨#[97, 91]⟩, false, false⟩, ⟨⟨#[93]⟩, true, false⟩, ⟨⟨#[93]⟩, false, false⟩], .str [⟨#[97, 93]⟩], .str [⟨#[97, 91]⟩], .eq (.bool true), .eq (.bool true), .eq (.bool true)]
def worksDs : List Tmp := [1, 2, 3, 4, 5, 6, 7, 8, 9, 10, 11, 12, 13, 14, 15, 16, 17, 18, 19, 20, 21, 22, 23, 24, 25, 26, 27, 28, 29, 30, 31, 32, 33, 34, 35, 36, 37, 38, 39, 40, 41, 42, 43, 44, 45, 46, 47, 48, 49, 50, 51, 52, 53, 54, 55, 56, 57, 58, 59, 60, 61, 62, 63, 64, 65, 66, 67, 68, 69, 0]

set_option maxRecDepth 100000 in
set_option maxHeartbeats 8000000 in
theorem works_walk (w : World) : Calls Try.prog 13 #[] w fun e w' => e = .returned (.bool true) ∧ Below w.heap.size w w' := by
  refine (callsIn_wide (n := 4)).1 ?_
  refine callsIn_of_wp Try.func13 rfl trivial ?_ rfl
  simp only [Try.ntmps13, List.size_toArray, List.length_nil, Nat.reduceSub, Array.replicate_succ, Array.replicate_zero, List.push_toArray, List.append_toArray, List.nil_append, List.cons_append]
  iterate 10 gi_step
  refine wpIn_region_specL 70 worksDs ?h1 ?h2 (by rfl) (specS worksSp) (specS_below worksSp) ?st ?en
  case h1 => kernel_rfl
  case h2 => kernel_rfl
  case st =>
    refine StepsOk.with (by kernel_rfl) (fun hdB => ?_)
    refine StepsOk.cons (step_bare hdB 0 0 ⟨#[97, 42, 99]⟩ (by rfl) (.inl rfl) (is_const _) (by rfl)) ?_
    refine StepsOk.cons (step_str2 hdB 0 0 ⟨#[97, 99]⟩ ⟨#[97, 98, 98, 99]⟩ (by rfl) (.inl rfl) (is_const _) (is_const _) (by rfl)) ?_
    refine StepsOk.cons (step_str2 hdB 0 0 ⟨#[97]⟩ ⟨#[97, 99, 98]⟩ (by rfl) (.inl rfl) (is_const _) (is_const _) (by rfl)) ?_
    refine StepsOk.cons (step_rows hdB 0 0 [⟨⟨#[97, 42, 99]⟩, false, false⟩] [⟨#[97, 99]⟩, ⟨#[97, 98, 98, 99]⟩] [⟨#[97]⟩, ⟨#[97, 99, 98]⟩] (by rfl) (.inl rfl) (is_tmp 0 (by rfl) (by rfl) (by rfl)) (is_tmp 1 (by rfl) (by rfl) (by rfl)) (is_tmp 2 (by rfl) (by rfl) (by rfl)) (by kernel_rfl) (by rfl)) ?_
    refine StepsOk.cons (step_move hdB 0 0 (.bool true) (by rfl) (.inl rfl) (is_tmp 3 (by rfl) (by rfl) (by rfl)) (by rfl)) ?_
    refine StepsOk.cons (step_bare hdB 4 5 ⟨#[42]⟩ (by rfl) (.inr (by rfl)) (is_const _) (by rfl)) ?_
    refine StepsOk.cons (step_str2 hdB 4 5 ⟨#[]⟩ ⟨#[120, 47, 121]⟩ (by rfl) (.inr (by rfl)) (is_const _) (is_const _) (by rfl)) ?_
    refine StepsOk.cons (step_rows hdB 4 5 [⟨⟨#[42]⟩, false, false⟩] [⟨#[]⟩, ⟨#[120, 47, 121]⟩] [] (by rfl) (.inr (by rfl)) (is_tmp 5 (by rfl) (by rfl) (by rfl)) (is_tmp 6 (by rfl) (by rfl) (by rfl)) is_nilstr (by kernel_rfl) (by rfl)) ?_
    refine StepsOk.cons (step_pick hdB 0 0 (by rfl) (.inl rfl) (is_tmp 4 (by rfl) (by rfl) (by rfl)) (is_tmp 7 (by rfl) (by rfl) (by rfl)) (by rfl)) ?_
    refine StepsOk.cons (step_move hdB 0 0 (.bool true) (by rfl) (.inl rfl) (is_tmp 8 (by rfl) (by rfl) (by rfl)) (by rfl)) ?_
    refine StepsOk.cons (step_bare hdB 9 10 ⟨#[63]⟩ (by rfl) (.inr (by rfl)) (is_const _) (by rfl)) ?_
    refine StepsOk.cons (step_str2 hdB 9 10 ⟨#[120]⟩ ⟨#[63]⟩ (by rfl) (.inr (by rfl)) (is_const _) (is_const _) (by rfl)) ?_
    refine StepsOk.cons (step_str2 hdB 9 10 ⟨#[]⟩ ⟨#[120, 121]⟩ (by rfl) (.inr (by rfl)) (is_const _) (is_const _) (by rfl)) ?_
    refine StepsOk.cons (step_rows hdB 9 10 [⟨⟨#[63]⟩, false, false⟩] [⟨#[120]⟩, ⟨#[63]⟩] [⟨#[]⟩, ⟨#[120, 121]⟩] (by rfl) (.inr (by rfl)) (is_tmp 10 (by rfl) (by rfl) (by rfl)) (is_tmp 11 (by rfl) (by rfl) (by rfl)) (is_tmp 12 (by rfl) (by rfl) (by rfl)) (by kernel_rfl) (by rfl)) ?_
    refine StepsOk.cons (step_pick hdB 0 0 (by rfl) (.inl rfl) (is_tmp 9 (by rfl) (by rfl) (by rfl)) (is_tmp 13 (by rfl) (by rfl) (by rfl)) (by rfl)) ?_
    refine StepsOk.cons (step_move hdB 0 0 (.bool true) (by rfl) (.inl rfl) (is_tmp 14 (by rfl) (by rfl) (by rfl)) (by rfl)) ?_
    refine StepsOk.cons (step_bare hdB 15 16 ⟨#[91, 97, 45, 99, 93, 120]⟩ (by rfl) (.inr (by rfl)) (is_const _) (by rfl)) ?_
    refine StepsOk.cons (step_str2 hdB 15 16 ⟨#[97, 120]⟩ ⟨#[99, 120]⟩ (by rfl) (.inr (by rfl)) (is_const _) (is_const _) (by rfl)) ?_
    refine StepsOk.cons (step_str1 hdB 15 16 ⟨#[100, 120]⟩ (by rfl) (.inr (by rfl)) (is_const _) (by rfl)) ?_
    refine StepsOk.cons (step_rows hdB 15 16 [⟨⟨#[91, 97, 45, 99, 93, 120]⟩, false, false⟩] [⟨#[97, 120]⟩, ⟨#[99, 120]⟩] [⟨#[100, 120]⟩] (by rfl) (.inr (by rfl)) (is_tmp 16 (by rfl) (by rfl) (by rfl)) (is_tmp 17 (by rfl) (by rfl) (by rfl)) (is_tmp 18 (by rfl) (by rfl) (by rfl)) (by kernel_rfl) (by rfl)) ?_
    refine StepsOk.cons (step_pick hdB 0 0 (by rfl) (.inl rfl) (is_tmp 15 (by rfl) (by rfl) (by rfl)) (is_tmp 19 (by rfl) (by rfl) (by rfl)) (by rfl)) ?_
    refine StepsOk.cons (step_move hdB 0 0 (.bool true) (by rfl) (.inl rfl) (is_tmp 20 (by rfl) (by rfl) (by rfl)) (by rfl)) ?_
    refine StepsOk.cons (step_bare hdB 21 22 ⟨#[91, 33, 97, 93, 120]⟩ (by rfl) (.inr (by rfl)) (is_const _) (by rfl)) ?_
    refine StepsOk.cons (step_str1 hdB 21 22 ⟨#[98, 120]⟩ (by rfl) (.inr (by rfl)) (is_const _) (by rfl)) ?_
    refine StepsOk.cons (step_str1 hdB 21 22 ⟨#[97, 120]⟩ (by rfl) (.inr (by rfl)) (is_const _) (by rfl)) ?_
    refine StepsOk.cons (step_rows hdB 21 22 [⟨⟨#[91, 33, 97, 93, 120]⟩, false, false⟩] [⟨#[98, 120]⟩] [⟨#[97, 120]⟩] (by rfl) (.inr (by rfl)) (is_tmp 22 (by rfl) (by rfl) (by rfl)) (is_tmp 23 (by rfl) (by rfl) (by rfl)) (is_tmp 24 (by rfl) (by rfl) (by rfl)) (by kernel_rfl) (by rfl)) ?_
    refine StepsOk.cons (step_pick hdB 0 0 (by rfl) (.inl rfl) (is_tmp 21 (by rfl) (by rfl) (by rfl)) (is_tmp 25 (by rfl) (by rfl) (by rfl)) (by rfl)) ?_
    refine StepsOk.cons (step_move hdB 0 0 (.bool true) (by rfl) (.inl rfl) (is_tmp 26 (by rfl) (by rfl) (by rfl)) (by rfl)) ?_
    refine StepsOk.cons (step_bare hdB 27 28 ⟨#[91, 93, 97, 93]⟩ (by rfl) (.inr (by rfl)) (is_const _) (by rfl)) ?_
    refine StepsOk.cons (step_str2 hdB 27 28 ⟨#[93]⟩ ⟨#[97]⟩ (by rfl) (.inr (by rfl)) (is_const _) (is_const _) (by rfl)) ?_
    refine StepsOk.cons (step_str1 hdB 27 28 ⟨#[91]⟩ (by rfl) (.inr (by rfl)) (is_const _) (by rfl)) ?_
    refine StepsOk.cons (step_rows hdB 27 28 [⟨⟨#[91, 93, 97, 93]⟩, false, false⟩] [⟨#[93]⟩, ⟨#[97]⟩] [⟨#[91]⟩] (by rfl) (.inr (by rfl)) (is_tmp 28 (by rfl) (by rfl) (by rfl)) (is_tmp 29 (by rfl) (by rfl) (by rfl)) (is_tmp 30 (by rfl) (by rfl) (by rfl)) (by kernel_rfl) (by rfl)) ?_
    refine StepsOk.cons (step_pick hdB 0 0 (by rfl) (.inl rfl) (is_tmp 27 (by rfl) (by rfl) (by rfl)) (is_tmp 31 (by rfl) (by rfl) (by rfl)) (by rfl)) ?_
    refine StepsOk.cons (step_move hdB 0 0 (.bool true) (by rfl) (.inl rfl) (is_tmp 32 (by rfl) (by rfl) (by rfl)) (by rfl)) ?_
    refine StepsOk.cons (step_bare hdB 33 34 ⟨#[91, 97, 45, 93]⟩ (by rfl) (.inr (by rfl)) (is_const _) (by rfl)) ?_
    refine StepsOk.cons (step_str2 hdB 33 34 ⟨#[97]⟩ ⟨#[45]⟩ (by rfl) (.inr (by rfl)) (is_const _) (is_const _) (by rfl)) ?_
    refine StepsOk.cons (step_str1 hdB 33 34 ⟨#[98]⟩ (by rfl) (.inr (by rfl)) (is_const _) (by rfl)) ?_
    refine StepsOk.cons (step_rows hdB 33 34 [⟨⟨#[91, 97, 45, 93]⟩, false, false⟩] [⟨#[97]⟩, ⟨#[45]⟩] [⟨#[98]⟩] (by rfl) (.inr (by rfl)) (is_tmp 34 (by rfl) (by rfl) (by rfl)) (is_tmp 35 (by rfl) (by rfl) (by rfl)) (is_tmp 36 (by rfl) (by rfl) (by rfl)) (by kernel_rfl) (by rfl)) ?_
    refine StepsOk.cons (step_pick hdB 0 0 (by rfl) (.inl rfl) (is_tmp 33 (by rfl) (by rfl) (by rfl)) (is_tmp 37 (by rfl) (by rfl) (by rfl)) (by rfl)) ?_
    refine StepsOk.cons (step_move hdB 0 0 (.bool true) (by rfl) (.inl rfl) (is_tmp 38 (by rfl) (by rfl) (by rfl)) (by rfl)) ?_
    refine StepsOk.cons (step_bare hdB 39 40 ⟨#[91, 45, 97, 93]⟩ (by rfl) (.inr (by rfl)) (is_const _) (by rfl)) ?_
    refine StepsOk.cons (step_str2 hdB 39 40 ⟨#[97]⟩ ⟨#[45]⟩ (by rfl) (.inr (by rfl)) (is_const _) (is_const _) (by rfl)) ?_
    refine StepsOk.cons (step_str1 hdB 39 40 ⟨#[98]⟩ (by rfl) (.inr (by rfl)) (is_const _) (by rfl)) ?_
    refine StepsOk.cons (step_rows hdB 39 40 [⟨⟨#[91, 45, 97, 93]⟩, false, false⟩] [⟨#[97]⟩, ⟨#[45]⟩] [⟨#[98]⟩] (by rfl) (.inr (by rfl)) (is_tmp 40 (by rfl) (by rfl) (by rfl)) (is_tmp 41 (by rfl) (by rfl) (by rfl)) (is_tmp 42 (by rfl) (by rfl) (by rfl)) (by kernel_rfl) (by rfl)) ?_
    refine StepsOk.cons (step_pick hdB 0 0 (by rfl) (.inl rfl) (is_tmp 39 (by rfl) (by rfl) (by rfl)) (is_tmp 43 (by rfl) (by rfl) (by rfl)) (by rfl)) ?_
    refine StepsOk.cons (step_move hdB 0 0 (.bool true) (by rfl) (.inl rfl) (is_tmp 44 (by rfl) (by rfl) (by rfl)) (by rfl)) ?_
    refine StepsOk.cons (step_three hdB 45 46 ⟨#[]⟩ ⟨#[42]⟩ ⟨#[97]⟩ (by rfl) (.inr (by rfl)) (is_const _) (is_const _) (is_const _) (by rfl)) ?_
    refine StepsOk.cons (step_str1 hdB 45 46 ⟨#[42, 97]⟩ (by rfl) (.inr (by rfl)) (is_const _) (by rfl)) ?_
    refine StepsOk.cons (step_str1 hdB 45 46 ⟨#[120, 97]⟩ (by rfl) (.inr (by rfl)) (is_const _) (by rfl)) ?_
    refine StepsOk.cons (step_rows hdB 45 46 [⟨⟨#[]⟩, false, false⟩, ⟨⟨#[42]⟩, true, false⟩, ⟨⟨#[97]⟩, false, false⟩] [⟨#[42, 97]⟩] [⟨#[120, 97]⟩] (by rfl) (.inr (by rfl)) (is_tmp 46 (by rfl) (by rfl) (by rfl)) (is_tmp 47 (by rfl) (by rfl) (by rfl)) (is_tmp 48 (by rfl) (by rfl) (by rfl)) (by kernel_rfl) (by rfl)) ?_
    refine StepsOk.cons (step_pick hdB 0 0 (by rfl) (.inl rfl) (is_tmp 45 (by rfl) (by rfl) (by rfl)) (is_tmp 49 (by rfl) (by rfl) (by rfl)) (by rfl)) ?_
    refine StepsOk.cons (step_move hdB 0 0 (.bool true) (by rfl) (.inl rfl) (is_tmp 50 (by rfl) (by rfl) (by rfl)) (by rfl)) ?_
    refine StepsOk.cons (step_three hdB 51 52 ⟨#[91, 97]⟩ ⟨#[45]⟩ ⟨#[99, 93]⟩ (by rfl) (.inr (by rfl)) (is_const _) (is_const _) (is_const _) (by rfl)) ?_
    refine StepsOk.cons (step_str3 hdB 51 52 ⟨#[97]⟩ ⟨#[45]⟩ ⟨#[99]⟩ (by rfl) (.inr (by rfl)) (is_const _) (is_const _) (is_const _) (by rfl)) ?_
    refine StepsOk.cons (step_str1 hdB 51 52 ⟨#[98]⟩ (by rfl) (.inr (by rfl)) (is_const _) (by rfl)) ?_
    refine StepsOk.cons (step_rows hdB 51 52 [⟨⟨#[91, 97]⟩, false, false⟩, ⟨⟨#[45]⟩, true, false⟩, ⟨⟨#[99, 93]⟩, false, false⟩] [⟨#[97]⟩, ⟨#[45]⟩, ⟨#[99]⟩] [⟨#[98]⟩] (by rfl) (.inr (by rfl)) (is_tmp 52 (by rfl) (by rfl) (by rfl)) (is_tmp 53 (by rfl) (by rfl) (by rfl)) (is_tmp 54 (by rfl) (by rfl) (by rfl)) (by kernel_rfl) (by rfl)) ?_
    refine StepsOk.cons (step_pick hdB 0 0 (by rfl) (.inl rfl) (is_tmp 51 (by rfl) (by rfl) (by rfl)) (is_tmp 55 (by rfl) (by rfl) (by rfl)) (by rfl)) ?_
    refine StepsOk.cons (step_move hdB 0 0 (.bool true) (by rfl) (.inl rfl) (is_tmp 56 (by rfl) (by rfl) (by rfl)) (by rfl)) ?_
    refine StepsOk.cons (step_bare hdB 57 58 ⟨#[91, 97]⟩ (by rfl) (.inr (by rfl)) (is_const _) (by rfl)) ?_
    refine StepsOk.cons (step_str1 hdB 57 58 ⟨#[91, 97]⟩ (by rfl) (.inr (by rfl)) (is_const _) (by rfl)) ?_
    refine StepsOk.cons (step_str1 hdB 57 58 ⟨#[97]⟩ (by rfl) (.inr (by rfl)) (is_const _) (by rfl)) ?_
    refine StepsOk.cons (step_rows hdB 57 58 [⟨⟨#[91, 97]⟩, false, false⟩] [⟨#[91, 97]⟩] [⟨#[97]⟩] (by rfl) (.inr (by rfl)) (is_tmp 58 (by rfl) (by rfl) (by rfl)) (is_tmp 59 (by rfl) (by rfl) (by rfl)) (is_tmp 60 (by rfl) (by rfl) (by rfl)) (by kernel_rfl) (by rfl)) ?_
    refine StepsOk.cons (step_pick hdB 0 0 (by rfl) (.inl rfl) (is_tmp 57 (by rfl) (by rfl) (by rfl)) (is_tmp 61 (by rfl) (by rfl) (by rfl)) (by rfl)) ?_
    refine StepsOk.cons (step_move hdB 0 0 (.bool true) (by rfl) (.inl rfl) (is_tmp 62 (by rfl) (by rfl) (by rfl)) (by rfl)) ?_
    refine StepsOk.cons (step_three hdB 63 64 ⟨#[97, 91]⟩ ⟨#[93]⟩ ⟨#[93]⟩ (by rfl) (.inr (by rfl)) (is_const _) (is_const _) (is_const _) (by rfl)) ?_
    refine StepsOk.cons (step_str1 hdB 63 64 ⟨#[97, 93]⟩ (by rfl) (.inr (by rfl)) (is_const _) (by rfl)) ?_
    refine StepsOk.cons (step_str1 hdB 63 64 ⟨#[97, 91]⟩ (by rfl) (.inr (by rfl)) (is_const _) (by rfl)) ?_
    refine StepsOk.cons (step_rows hdB 63 64 [⟨⟨#[97, 91]⟩, false, false⟩, ⟨⟨#[93]⟩, true, false⟩, ⟨⟨#[93]⟩, false, false⟩] [⟨#[97, 93]⟩] [⟨#[97, 91]⟩] (by rfl) (.inr (by rfl)) (is_tmp 64 (by rfl) (by rfl) (by rfl)) (is_tmp 65 (by rfl) (by rfl) (by rfl)) (is_tmp 66 (by rfl) (by rfl) (by rfl)) (by kernel_rfl) (by rfl)) ?_
    refine StepsOk.cons (step_pick hdB 0 0 (by rfl) (.inl rfl) (is_tmp 63 (by rfl) (by rfl) (by rfl)) (is_tmp 67 (by rfl) (by rfl) (by rfl)) (by rfl)) ?_
    refine StepsOk.cons (step_assign hdB 0 0 (.bool true) (by rfl) (.inl rfl) (is_tmp 68 (by rfl) (by rfl) (by rfl)) (by rfl)) ?_
    exact trivial
  case en =>
    intro t W ht _ hS hb
    have h0 : t.getD 0 undef = .bool true := hS 69 0 (by rfl)
    gi_wp2
    go_ret
    exact ⟨congrArg Ending.returned h0, hb⟩
end Go.Proofs.Ythbnnlhkcaomlaa.Gl
