/- The words of ExpandKnown, and what each comes to (printed by wip/gen-known.py). -/
import Derived.Test.YthbnnlhkcaomlaaDoorExTop
namespace Go.Proofs.YthbnnlhkcaomlaaDoor.Ex
open Go.RowKit Go.Shelf Go.Proofs.YthbnnlhkcaomlaaDoorW.PrintWords Go.Proofs.YthbnnlhkcaomlaaDoor.Gl

def kw_r12 : List PartT := [leaf 2 ⟨#[42]⟩ ⟨#[]⟩ false]
def kw_r16 : List PartT := [leaf 1 ⟨#[97]⟩ ⟨#[]⟩ true, leaf 2 ⟨#[64]⟩ ⟨#[]⟩ true]
def kw_r19 : List PartT := [leaf 2 ⟨#[42]⟩ ⟨#[]⟩ true]
def kw_r22 : List PartT := [leaf 0 ⟨#[113, 32, 114]⟩ ⟨#[]⟩ false]
def kw_r24 : List PartT := [.mk 2 ⟨#[122]⟩ ⟨#[58, 45]⟩ false kw_r22 none]
def kw_r27 : List PartT := [leaf 0 ⟨#[113]⟩ ⟨#[]⟩ false]
def kw_r29 : List PartT := [.mk 2 ⟨#[121]⟩ ⟨#[45]⟩ false kw_r27 none]
def kw_r32 : List PartT := [leaf 1 ⟨#[113]⟩ ⟨#[]⟩ true]
def kw_r34 : List PartT := [.mk 2 ⟨#[121]⟩ ⟨#[58, 43]⟩ true kw_r32 none]
def kw_r37 : List PartT := [leaf 1 ⟨#[113]⟩ ⟨#[]⟩ true]
def kw_r39 : List PartT := [.mk 2 ⟨#[121]⟩ ⟨#[43]⟩ true kw_r37 none]
def kw_r42 : List PartT := [leaf 0 ⟨#[97, 42]⟩ ⟨#[]⟩ false]
def kw_r44 : List PartT := [.mk 2 ⟨#[120]⟩ ⟨#[35]⟩ false kw_r42 none]
def kw_r47 : List PartT := [leaf 0 ⟨#[97, 42]⟩ ⟨#[]⟩ false]
def kw_r49 : List PartT := [.mk 2 ⟨#[120]⟩ ⟨#[35, 35]⟩ false kw_r47 none]
def kw_r53 : List PartT := [leaf 1 ⟨#[32]⟩ ⟨#[]⟩ false, leaf 0 ⟨#[42]⟩ ⟨#[]⟩ false]
def kw_r55 : List PartT := [.mk 2 ⟨#[120]⟩ ⟨#[37, 37]⟩ false kw_r53 none]
def kw_r58 : List PartT := [leaf 2 ⟨#[120]⟩ ⟨#[108, 101, 110]⟩ false]
def kw_r63 : List PartT := [leaf 2 ⟨#[64]⟩ ⟨#[108, 101, 110]⟩ true, leaf 2 ⟨#[35]⟩ ⟨#[]⟩ false, leaf 2 ⟨#[63]⟩ ⟨#[]⟩ false]
def kw_r69 : List PartT := [leaf 0 ⟨#[107]⟩ ⟨#[]⟩ false]
def kw_r71 : List PartT := [leaf 2 ⟨#[49]⟩ ⟨#[]⟩ false, leaf 2 ⟨#[50]⟩ ⟨#[]⟩ true, leaf 2 ⟨#[51]⟩ ⟨#[]⟩ false, .mk 2 ⟨#[51]⟩ ⟨#[45]⟩ false kw_r69 none]
def kw_r74 : List PartT := [leaf 2 ⟨#[64]⟩ ⟨#[]⟩ true]
def kw_r77 : List PartT := [.mk 2 ⟨#[122]⟩ ⟨#[61]⟩ false kw_r74 none, leaf 2 ⟨#[122]⟩ ⟨#[]⟩ true]
def kw_r81 : List PartT := [leaf 2 ⟨#[64]⟩ ⟨#[]⟩ true, leaf 1 ⟨#[101]⟩ ⟨#[]⟩ true]
def kw_r83 : List PartT := [.mk 2 ⟨#[122]⟩ ⟨#[58, 45]⟩ true kw_r81 none]
def kw_r86 : List PartT := [leaf 2 ⟨#[122]⟩ ⟨#[63]⟩ false]
def kw_r89 : List PartT := [leaf 2 ⟨#[121]⟩ ⟨#[58, 63]⟩ false]
def kw_r92 : List PartT := [leaf 2 ⟨#[121]⟩ ⟨#[63]⟩ false]
def kw_r95 : List PartT := [leaf 0 ⟨#[107]⟩ ⟨#[]⟩ false]
def kw_r97 : List PartT := [.mk 2 ⟨#[49]⟩ ⟨#[61]⟩ false kw_r95 none]
def kw_r100 : List PartT := [leaf 0 ⟨#[107]⟩ ⟨#[]⟩ false]
def kw_r102 : List PartT := [.mk 2 ⟨#[57]⟩ ⟨#[61]⟩ false kw_r100 none]
def kw_r105 : List PartT := [leaf 2 ⟨#[120]⟩ ⟨#[33]⟩ false]
def kw_r108 : List PartT := [leaf 4 ⟨#[]⟩ ⟨#[]⟩ false]
def kw_r117 : List PartT := [.mk 3 ⟨#[]⟩ ⟨#[]⟩ false [] (some (⟨#[111, 32, 107]⟩, false)), .mk 3 ⟨#[]⟩ ⟨#[]⟩ true [] (some (⟨#[111, 32, 107]⟩, false)), leaf 3 ⟨#[]⟩ ⟨#[]⟩ false]
def kw_r122 : List PartT := [.mk 3 ⟨#[]⟩ ⟨#[]⟩ false [] (some (⟨#[]⟩, true))]
theorem ks_0 : saidP [] ⟨lawL, lawA, 7, []⟩ = some (⟨#[91, 93]⟩ : B) := by kernel_rfl
theorem ks_1 : saidP kw_r12 ⟨lawL, lawA, 7, []⟩ = some (⟨#[91, 40, 49, 41, 93, 91, 40, 50, 32, 51, 41, 93]⟩ : B) := by kernel_rfl
theorem ks_2 : saidP kw_r16 ⟨lawL, lawA, 7, []⟩ = some (⟨#[91, 39, 97, 39, 39, 49, 39, 93, 91, 39, 50, 32, 51, 39, 93]⟩ : B) := by kernel_rfl
theorem ks_3 : saidP kw_r19 ⟨lawL, lawA, 7, []⟩ = some (⟨#[91, 39, 49, 32, 50, 32, 51, 39, 93]⟩ : B) := by kernel_rfl
theorem ks_4 : saidP kw_r24 ⟨lawL, lawA, 7, []⟩ = some (⟨#[91, 40, 113, 32, 114, 41, 93]⟩ : B) := by kernel_rfl
theorem ks_5 : saidP kw_r29 ⟨lawL, lawA, 7, []⟩ = some (⟨#[91, 40, 41, 93]⟩ : B) := by kernel_rfl
theorem ks_6 : saidP kw_r34 ⟨lawL, lawA, 7, []⟩ = some (⟨#[91, 93]⟩ : B) := by kernel_rfl
theorem ks_7 : saidP kw_r39 ⟨lawL, lawA, 7, []⟩ = some (⟨#[91, 39, 113, 39, 93]⟩ : B) := by kernel_rfl
theorem ks_8 : saidP kw_r44 ⟨lawL, lawA, 7, []⟩ = some (⟨#[91, 40, 32, 98, 41, 93]⟩ : B) := by kernel_rfl
theorem ks_9 : saidP kw_r49 ⟨lawL, lawA, 7, []⟩ = some (⟨#[91, 40, 41, 93]⟩ : B) := by kernel_rfl
theorem ks_10 : saidP kw_r55 ⟨lawL, lawA, 7, []⟩ = some (⟨#[91, 40, 97, 41, 93]⟩ : B) := by kernel_rfl
theorem ks_11 : saidP kw_r58 ⟨lawL, lawA, 7, []⟩ = some (⟨#[91, 40, 51, 41, 93]⟩ : B) := by kernel_rfl
theorem ks_12 : saidP kw_r63 ⟨lawL, lawA, 7, []⟩ = some (⟨#[91, 39, 50, 39, 40, 50, 41, 40, 55, 41, 93]⟩ : B) := by kernel_rfl
theorem ks_13 : saidP kw_r71 ⟨lawL, lawA, 7, []⟩ = some (⟨#[91, 40, 49, 41, 39, 50, 32, 51, 39, 40, 41, 40, 107, 41, 93]⟩ : B) := by kernel_rfl
theorem ks_14 : saidP kw_r77 ⟨lawL, lawA, 7, []⟩ = some (⟨#[91, 40, 49, 32, 50, 32, 51, 41, 39, 49, 32, 50, 32, 51, 39, 93]⟩ : B) := by kernel_rfl
theorem ks_15 : saidP kw_r83 ⟨lawL, lawA, 7, []⟩ = some (⟨#[91, 39, 49, 39, 93, 91, 39, 50, 32, 51, 39, 39, 101, 39, 93]⟩ : B) := by kernel_rfl
theorem ks_16 : saidP kw_r86 ⟨lawL, lawA, 7, []⟩ = some (⟨#[33, 99]⟩ : B) := by kernel_rfl
theorem ks_17 : saidP kw_r89 ⟨lawL, lawA, 7, []⟩ = some (⟨#[33, 99]⟩ : B) := by kernel_rfl
theorem ks_18 : saidP kw_r92 ⟨lawL, lawA, 7, []⟩ = some (⟨#[91, 40, 41, 93]⟩ : B) := by kernel_rfl
theorem ks_19 : saidP kw_r97 ⟨lawL, lawA, 7, []⟩ = some (⟨#[91, 40, 49, 41, 93]⟩ : B) := by kernel_rfl
theorem ks_20 : saidP kw_r102 ⟨lawL, lawA, 7, []⟩ = some (⟨#[33, 99]⟩ : B) := by kernel_rfl
theorem ks_21 : saidP kw_r105 ⟨lawL, lawA, 7, []⟩ = some (⟨#[33, 99]⟩ : B) := by kernel_rfl
theorem ks_22 : saidP kw_r108 ⟨lawL, lawA, 7, []⟩ = some (⟨#[33, 99]⟩ : B) := by kernel_rfl
theorem ks_23 : saidP kw_r117 ⟨lawL, lawA, 7, []⟩ = some (⟨#[91, 40, 111, 32, 107, 41, 39, 111, 32, 107, 39, 40, 41, 93]⟩ : B) := by kernel_rfl
theorem ks_24 : saidP kw_r122 ⟨lawL, lawA, 7, []⟩ = some (⟨#[33, 111]⟩ : B) := by kernel_rfl
/-- So many levels of ${z-..} around a literal a. -/
def nest : Nat → List PartT
  | 0 => [leaf 0 ⟨#[97]⟩ ⟨#[]⟩ false]
  | k + 1 => [.mk 2 ⟨#[122]⟩ ⟨#[45]⟩ false (nest k) none]
theorem kd_1 : saidP (nest 19) ⟨[], [], 0, []⟩ = some (⟨#[91, 40, 97, 41, 93]⟩ : B) := by kernel_rfl
theorem kd_2 : saidP (nest 20) ⟨[], [], 0, []⟩ = some (⟨#[33, 100]⟩ : B) := by kernel_rfl
theorem kd_3 : saidP [leaf 2 ⟨#[64]⟩ ⟨#[]⟩ true] ⟨[], [], 0, []⟩ = some (⟨#[91, 93]⟩ : B) := by kernel_rfl

end Go.Proofs.YthbnnlhkcaomlaaDoor.Ex
