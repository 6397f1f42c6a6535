/- For every input that law answers true and leaves its arguments as they were: a part of its proof. Printed by the kit's print tool, with this session's own contracts (wip/glob/ext.py) at the functions that the tool cannot print. Not trusted: Lean checks it. -/
import Derived.Test.YthbnnlhkcaomlaaPGlobMatchesx0
import Derived.Test.YthbnnlhkcaomlaaPGlobMatchesx1
namespace Go.Proofs.Ythbnnlhkcaomlaa.PGlobMatches
open Go.RowKit Go.Proofs.YthbnnlhkcaomlaaW.PrintWords Go.Proofs.YthbnnlhkcaomlaaW.PrintLast Go.Proofs.YthbnnlhkcaomlaaW.PrintMore
attribute [local go_sem] max2_int min2_int max_two min_two max_three min_three max_four min_four   -- for this text's walks alone
set_option linter.unusedVariables false
set_option linter.unusedSimpArgs false

/-! ### whiskref14_set: function 34 -/
mutual
def whiskref14_set.j0 : Nat → List (S54) → Int → Bool → Option (Int × Bool)
  | 0, _, _, _ => none
  | k + 1, x0, x1, x20 => if x20 = true then (some (0, false)) else (if 1 < (x0.length : Int) then ((whiskref14_is.f ((rd_T54 x0 1).f0) ((rd_T54 x0 1).f1) 33).bind fun t112 => (if t112 = true then (whiskref14_set.j1 k x0 x1 1 true) else ((whiskref14_is.f ((rd_T54 x0 1).f0) ((rd_T54 x0 1).f1) 94).bind fun t114 => (whiskref14_set.j1 k x0 x1 1 t114)))) else (whiskref14_set.j1 k x0 x1 1 false))
def whiskref14_set.j1 : Nat → List (S54) → Int → Int → Bool → Option (Int × Bool)
  | 0, _, _, _, _ => none
  | k + 1, x0, x1, x6, x7 => if x7 = true then (whiskref14_set.j2 k x0 x1 (wrap64 (x6 + 1)) x7) else (whiskref14_set.j2 k x0 x1 x6 x7)
def whiskref14_set.j2 : Nat → List (S54) → Int → Int → Bool → Option (Int × Bool)
  | 0, _, _, _, _ => none
  | k + 1, x0, x1, x6, x7 => whiskref14_set.l0 k x0 x1 x6 x7 (wrap64 (x6 + 1))
def whiskref14_set.j4 : Nat → List (S54) → Int → Int → Bool → Int → Option (Int × Bool)
  | 0, _, _, _, _, _ => none
  | k + 1, x0, x1, x6, x7, x8 => if x8 ≥ (x0.length : Int) then (some (0, false)) else (whiskref14_set.l1 k x0 x1 x7 x8 false x6)
def whiskref14_set.l1 : Nat → List (S54) → Int → Bool → Int → Bool → Int → Option (Int × Bool)
  | 0, _, _, _, _, _, _ => none
  | k + 1, x0, x1, x7, x8, x9, x10 => if x10 < x8 then (if (wrap64 (x10 + 2)) < x8 then (if 0 ≤ (wrap64 (x10 + 1)) then (if (wrap64 (x10 + 1)) < (x0.length : Int) then ((whiskref14_is.f ((rd_T54 x0 (wrap64 (x10 + 1))).f0) ((rd_T54 x0 (wrap64 (x10 + 1))).f1) 45).bind fun t118 => (if t118 = true then (if x9 = true then (whiskref14_set.l1 k x0 x1 x7 x8 true (wrap64 (x10 + 3))) else (if 0 ≤ x10 then (if x10 < (x0.length : Int) then (if x1 ≥ ((rd_T54 x0 x10).f0) then (if 0 ≤ (wrap64 (x10 + 2)) then (if (wrap64 (x10 + 2)) < (x0.length : Int) then (whiskref14_set.l1 k x0 x1 x7 x8 (decide (x1 ≤ ((rd_T54 x0 (wrap64 (x10 + 2))).f0))) (wrap64 (x10 + 3))) else (none)) else (none)) else (whiskref14_set.l1 k x0 x1 x7 x8 false (wrap64 (x10 + 3)))) else (none)) else (none))) else (if x9 = true then (whiskref14_set.l1 k x0 x1 x7 x8 true (wrap64 (x10 + 1))) else (if 0 ≤ x10 then (if x10 < (x0.length : Int) then (whiskref14_set.l1 k x0 x1 x7 x8 (x1 == ((rd_T54 x0 x10).f0)) (wrap64 (x10 + 1))) else (none)) else (none))))) else (none)) else (none)) else (if x9 = true then (whiskref14_set.l1 k x0 x1 x7 x8 true (wrap64 (x10 + 1))) else (if 0 ≤ x10 then (if x10 < (x0.length : Int) then (whiskref14_set.l1 k x0 x1 x7 x8 (x1 == ((rd_T54 x0 x10).f0)) (wrap64 (x10 + 1))) else (none)) else (none)))) else (some (wrap64 (x8 + 1), (x9 != x7)))
def whiskref14_set.l0 : Nat → List (S54) → Int → Int → Bool → Int → Option (Int × Bool)
  | 0, _, _, _, _, _ => none
  | k + 1, x0, x1, x6, x7, x8 => if x8 < (x0.length : Int) then (if 0 ≤ x8 then ((whiskref14_is.f ((rd_T54 x0 x8).f0) ((rd_T54 x0 x8).f1) 93).bind fun t116 => (if t116 = true then (whiskref14_set.j4 k x0 x1 x6 x7 x8) else (whiskref14_set.l0 k x0 x1 x6 x7 (wrap64 (x8 + 1))))) else (none)) else (whiskref14_set.j4 k x0 x1 x6 x7 x8)
end
def whiskref14_set.f (k : Nat) (l0 : List (S54)) (a1 : Int) : Option (Int × Bool) := if (l0.length : Int) = 0 then (whiskref14_set.j0 k l0 a1 true) else (if 0 < (l0.length : Int) then ((whiskref14_is.f ((rd_T54 l0 0).f0) ((rd_T54 l0 0).f1) 91).bind fun t110 => (whiskref14_set.j0 k l0 a1 (!t110))) else (none))
theorem whiskref14_set.mono_l : ∀ k, (∀ y0 y1 y2, LeO (whiskref14_set.j0 k y0 y1 y2) (whiskref14_set.j0 (k + 1) y0 y1 y2)) ∧ (∀ y0 y1 y2 y3, LeO (whiskref14_set.j1 k y0 y1 y2 y3) (whiskref14_set.j1 (k + 1) y0 y1 y2 y3)) ∧ (∀ y0 y1 y2 y3, LeO (whiskref14_set.j2 k y0 y1 y2 y3) (whiskref14_set.j2 (k + 1) y0 y1 y2 y3)) ∧ (∀ y0 y1 y2 y3 y4, LeO (whiskref14_set.j4 k y0 y1 y2 y3 y4) (whiskref14_set.j4 (k + 1) y0 y1 y2 y3 y4)) ∧ (∀ y0 y1 y2 y3 y4 y5, LeO (whiskref14_set.l1 k y0 y1 y2 y3 y4 y5) (whiskref14_set.l1 (k + 1) y0 y1 y2 y3 y4 y5)) ∧ (∀ y0 y1 y2 y3 y4, LeO (whiskref14_set.l0 k y0 y1 y2 y3 y4) (whiskref14_set.l0 (k + 1) y0 y1 y2 y3 y4))
  | 0 => ⟨fun _ _ _ r h => by simp [whiskref14_set.j0] at h, fun _ _ _ _ r h => by simp [whiskref14_set.j1] at h, fun _ _ _ _ r h => by simp [whiskref14_set.j2] at h, fun _ _ _ _ _ r h => by simp [whiskref14_set.j4] at h, fun _ _ _ _ _ _ r h => by simp [whiskref14_set.l1] at h, fun _ _ _ _ _ r h => by simp [whiskref14_set.l0] at h⟩
  | k + 1 => by
    obtain ⟨ih0, ih1, ih2, ih3, ih4, ih5⟩ := whiskref14_set.mono_l k
    refine ⟨?_, ?_, ?_, ?_, ?_, ?_⟩
    · intro y0 y1 y2
      unfold whiskref14_set.j0
      repeat' first
      | (with_reducible exact ih0 _ _ _)
      | (with_reducible exact ih1 _ _ _ _)
      | (with_reducible exact ih2 _ _ _ _)
      | (with_reducible exact ih3 _ _ _ _ _)
      | (with_reducible exact ih4 _ _ _ _ _ _)
      | (with_reducible exact ih5 _ _ _ _ _)
      | (with_reducible exact LeO.refl _)
      | (with_reducible exact LeO.none _)
      | (with_reducible refine LeO.ite ?_ ?_)
      | (with_reducible refine LeO.bind ?_ (fun _ => ?_))
      | exact ih0 _ _ _
      | exact ih1 _ _ _ _
      | exact ih2 _ _ _ _
      | exact ih3 _ _ _ _ _
      | exact ih4 _ _ _ _ _ _
      | exact ih5 _ _ _ _ _
      | exact LeO.none _
      | refine LeO.ite ?_ ?_
      | refine LeO.bind ?_ (fun _ => ?_)
    · intro y0 y1 y2 y3
      unfold whiskref14_set.j1
      repeat' first
      | (with_reducible exact ih0 _ _ _)
      | (with_reducible exact ih1 _ _ _ _)
      | (with_reducible exact ih2 _ _ _ _)
      | (with_reducible exact ih3 _ _ _ _ _)
      | (with_reducible exact ih4 _ _ _ _ _ _)
      | (with_reducible exact ih5 _ _ _ _ _)
      | (with_reducible exact LeO.refl _)
      | (with_reducible exact LeO.none _)
      | (with_reducible refine LeO.ite ?_ ?_)
      | (with_reducible refine LeO.bind ?_ (fun _ => ?_))
      | exact ih0 _ _ _
      | exact ih1 _ _ _ _
      | exact ih2 _ _ _ _
      | exact ih3 _ _ _ _ _
      | exact ih4 _ _ _ _ _ _
      | exact ih5 _ _ _ _ _
      | exact LeO.none _
      | refine LeO.ite ?_ ?_
      | refine LeO.bind ?_ (fun _ => ?_)
    · intro y0 y1 y2 y3
      unfold whiskref14_set.j2
      repeat' first
      | (with_reducible exact ih0 _ _ _)
      | (with_reducible exact ih1 _ _ _ _)
      | (with_reducible exact ih2 _ _ _ _)
      | (with_reducible exact ih3 _ _ _ _ _)
      | (with_reducible exact ih4 _ _ _ _ _ _)
      | (with_reducible exact ih5 _ _ _ _ _)
      | (with_reducible exact LeO.refl _)
      | (with_reducible exact LeO.none _)
      | (with_reducible refine LeO.ite ?_ ?_)
      | (with_reducible refine LeO.bind ?_ (fun _ => ?_))
      | exact ih0 _ _ _
      | exact ih1 _ _ _ _
      | exact ih2 _ _ _ _
      | exact ih3 _ _ _ _ _
      | exact ih4 _ _ _ _ _ _
      | exact ih5 _ _ _ _ _
      | exact LeO.none _
      | refine LeO.ite ?_ ?_
      | refine LeO.bind ?_ (fun _ => ?_)
    · intro y0 y1 y2 y3 y4
      unfold whiskref14_set.j4
      repeat' first
      | (with_reducible exact ih0 _ _ _)
      | (with_reducible exact ih1 _ _ _ _)
      | (with_reducible exact ih2 _ _ _ _)
      | (with_reducible exact ih3 _ _ _ _ _)
      | (with_reducible exact ih4 _ _ _ _ _ _)
      | (with_reducible exact ih5 _ _ _ _ _)
      | (with_reducible exact LeO.refl _)
      | (with_reducible exact LeO.none _)
      | (with_reducible refine LeO.ite ?_ ?_)
      | (with_reducible refine LeO.bind ?_ (fun _ => ?_))
      | exact ih0 _ _ _
      | exact ih1 _ _ _ _
      | exact ih2 _ _ _ _
      | exact ih3 _ _ _ _ _
      | exact ih4 _ _ _ _ _ _
      | exact ih5 _ _ _ _ _
      | exact LeO.none _
      | refine LeO.ite ?_ ?_
      | refine LeO.bind ?_ (fun _ => ?_)
    · intro y0 y1 y2 y3 y4 y5
      unfold whiskref14_set.l1
      repeat' first
      | (with_reducible exact ih0 _ _ _)
      | (with_reducible exact ih1 _ _ _ _)
      | (with_reducible exact ih2 _ _ _ _)
      | (with_reducible exact ih3 _ _ _ _ _)
      | (with_reducible exact ih4 _ _ _ _ _ _)
      | (with_reducible exact ih5 _ _ _ _ _)
      | (with_reducible exact LeO.refl _)
      | (with_reducible exact LeO.none _)
      | (with_reducible refine LeO.ite ?_ ?_)
      | (with_reducible refine LeO.bind ?_ (fun _ => ?_))
      | exact ih0 _ _ _
      | exact ih1 _ _ _ _
      | exact ih2 _ _ _ _
      | exact ih3 _ _ _ _ _
      | exact ih4 _ _ _ _ _ _
      | exact ih5 _ _ _ _ _
      | exact LeO.none _
      | refine LeO.ite ?_ ?_
      | refine LeO.bind ?_ (fun _ => ?_)
    · intro y0 y1 y2 y3 y4
      unfold whiskref14_set.l0
      repeat' first
      | (with_reducible exact ih0 _ _ _)
      | (with_reducible exact ih1 _ _ _ _)
      | (with_reducible exact ih2 _ _ _ _)
      | (with_reducible exact ih3 _ _ _ _ _)
      | (with_reducible exact ih4 _ _ _ _ _ _)
      | (with_reducible exact ih5 _ _ _ _ _)
      | (with_reducible exact LeO.refl _)
      | (with_reducible exact LeO.none _)
      | (with_reducible refine LeO.ite ?_ ?_)
      | (with_reducible refine LeO.bind ?_ (fun _ => ?_))
      | exact ih0 _ _ _
      | exact ih1 _ _ _ _
      | exact ih2 _ _ _ _
      | exact ih3 _ _ _ _ _
      | exact ih4 _ _ _ _ _ _
      | exact ih5 _ _ _ _ _
      | exact LeO.none _
      | refine LeO.ite ?_ ?_
      | refine LeO.bind ?_ (fun _ => ?_)
theorem whiskref14_set.mono : ∀ a0 a1 k, LeO (whiskref14_set.f k a0 a1) (whiskref14_set.f (k + 1) a0 a1) := by
  intro a0 a1 k
  obtain ⟨ih0, ih1, ih2, ih3, ih4, ih5⟩ := whiskref14_set.mono_l k
  unfold whiskref14_set.f
  repeat' first
      | (with_reducible exact ih0 _ _ _)
      | (with_reducible exact ih1 _ _ _ _)
      | (with_reducible exact ih2 _ _ _ _)
      | (with_reducible exact ih3 _ _ _ _ _)
      | (with_reducible exact ih4 _ _ _ _ _ _)
      | (with_reducible exact ih5 _ _ _ _ _)
      | (with_reducible exact LeO.refl _)
      | (with_reducible exact LeO.none _)
      | (with_reducible refine LeO.ite ?_ ?_)
      | (with_reducible refine LeO.bind ?_ (fun _ => ?_))
      | exact ih0 _ _ _
      | exact ih1 _ _ _ _
      | exact ih2 _ _ _ _
      | exact ih3 _ _ _ _ _
      | exact ih4 _ _ _ _ _ _
      | exact ih5 _ _ _ _ _
      | exact LeO.none _
      | refine LeO.ite ?_ ?_
      | refine LeO.bind ?_ (fun _ => ?_)
set_option maxHeartbeats 8000000 in
set_option maxRecDepth 100000 in
theorem whiskref14_set.calls (k : Nat) (A0 : Option Addr) (c0 : Nat) (l0 : List (S54)) (a1 : Int) (r1 : Int) (r2 : Bool) (w : World) (hr0 : Kd.C k54 w A0 l0.length l0) (hc0 : l0.length ≤ c0) (h : whiskref14_set.f k l0 a1 = some (r1, r2)) :
    Calls Try.prog 34 #[.slice A0 l0.length c0, .int .u8 a1] w fun e w' => e = .returned (.tuple #[.int .i64 r1, .bool r2]) ∧ Below w.heap.size w w' := by
  have hu54 := Try.underlying54
  have HR0 := Aside0.mk hr0
  have HC0 := Aside0.mk hc0
  clear hr0 hc0
  have HB := Aside0.mk (Below.refl w.heap.size w)
  have H : (if (l0.length : Int) = 0 then (whiskref14_set.j0 k l0 a1 true) else (if 0 < (l0.length : Int) then ((whiskref14_is.f ((rd_T54 l0 0).f0) ((rd_T54 l0 0).f1) 91).bind fun t110 => (whiskref14_set.j0 k l0 a1 (!t110))) else (none))) = some (r1, r2) := h
  clear h
  have HC3 := Aside0.mk H
  clear H
  go_enter Try.func34, Try.ntmps34
  go_upto_region 1 with (fail)
  go_cut [20] (fun v20 wc => ∃ (kq : Nat) (x20_2 : Bool), v20 = .bool x20_2 ∧ Aside0 (whiskref14_set.j0 kq l0 a1 x20_2 = some (r1, r2)) ∧ Aside0 (kq ≤ k) ∧ Aside0 (Below w.heap.size w wc))
  case first =>
    have H := HC3.out
    clear HC3
    by_cases c4 : (l0.length : Int) = 0
    · rw [if_pos c4] at H
      have c4b0 : ((l0.length : Int) == 0) = true := beq_iff_eq.mpr c4
      have c4b1 : ((l0.length : Int) != 0) = false := bne_eq_false_iff_eq.mpr c4
      clear c4
      (first | rw [c4b0] | (simp only [i64_w, i32_w]; rw [c4b0]) | skip)
      have H' := Aside0.mk H
      clear H
      go_wp2
      go_meet
      case rel => exact ⟨_, (true), (by first | rfl | (simp; done) | (simp [*]; done)), H', ⟨by first | omega | exact Nat.le_refl _⟩, ⟨by repeat (first | (with_reducible first | exact HB.out | apply below_alloc | apply pw_below_drewN | apply below_drew1) | exact HB.out)⟩⟩
    · rw [if_neg c4] at H
      have c4b0 : ((l0.length : Int) == 0) = false := beq_eq_false_iff_ne.mpr c4
      have c4b1 : ((l0.length : Int) != 0) = true := bne_iff_ne.mpr c4
      have c4b2 : ¬ (l0 = []) := fun h_ => c4 (by rw [h_]; rfl)
      (first | rw [c4b0] | (simp only [i64_w, i32_w]; rw [c4b0]) | skip)
      by_cases c5 : 0 < (l0.length : Int)
      · rw [if_pos c5] at H
        have c5b0 : decide (0 < (l0.length : Int)) = true := decide_eq_true c5
        have c5b1 : decide (0 < l0.length) = true := decide_eq_true (by omega)
        clear c5
        replace H := Option.bind_eq_some_iff.mp H
        obtain ⟨t110, A60, H⟩ := H
        replace H : (whiskref14_set.j0 k l0 a1 (!t110)) = some (r1, r2) := H
        have A6 := Aside0.mk A60
        clear A60
        have H' := Aside0.mk H
        clear H
        have p109 : 0 ≤ (0 : Int) := (by omega)
        have q109 : 0 < (l0.length : Int) := of_decide_eq_true (by first | (with_reducible assumption) | assumption)
        obtain ⟨ad109, e109, hx109_0, hx109_1⟩ := at_T54 HR0.out 0 p109 q109
        cases e109
        have qi109 : (0 < l0.length) = True := eq_true (by omega)
        (try rw [show ((0 : Int)).toNat = 0 from rfl] at hx109_0)
        (try rw [show 0 * 2 = 0 from rfl] at hx109_0)
        (try rw [Addr.add_zero'] at hx109_0)
        (try rw [show ((0 : Int)).toNat = 0 from rfl] at hx109_1)
        (try rw [show 0 * 2 = 0 from rfl] at hx109_1)
        (try rw [Addr.add_zero'] at hx109_1)
        replace hx109_0 := (HB.out.cell (World.block_lt_of_cell? w _ hx109_0)).trans hx109_0
        replace hx109_1 := (HB.out.cell (World.block_lt_of_cell? w _ hx109_1)).trans hx109_1
        replace p109 := eq_true p109
        replace q109 := eq_true q109
        go_wp2_with (first | (go_at_call 35; (with_reducible refine (whiskref14_is.calls ((rd_T54 l0 0).f0) ((rd_T54 l0 0).f1) 91 t110 _ A6.out).mono ?_); rintro e w7 ⟨rfl, hb⟩; have n0_ := Aside0.mk (below_step (by repeat (first | (with_reducible first | exact HB.out | apply below_alloc | apply pw_below_drewN | apply below_drew1) | exact HB.out)) hb); clear HB; have HB := n0_; clear n0_; (try clear hb); (try clear hb2); (try clear hk); (try clear hi)))
        go_meet
        case rel => exact ⟨_, (!t110), (by first | rfl | (simp; done) | (simp [*]; done)), H', ⟨by first | omega | exact Nat.le_refl _⟩, ⟨by repeat (first | (with_reducible first | exact HB.out | apply below_alloc | apply pw_below_drewN | apply below_drew1) | exact HB.out)⟩⟩
      · rw [if_neg c5] at H
        exact absurd H (by simp)
  case rest =>
    clear HC3
    try clear p1
    try clear q1
    try clear hx1
    try clear qi1
    try clear p2
    try clear c3
    try clear c4
    try clear c4b0
    try clear c4b1
    try clear c4b2
    try clear c5
    try clear c5b0
    try clear c5b1
    try clear hx109_0
    try clear hx109_1
    try clear p109
    try clear q109
    obtain ⟨kq, x20_2, rfl, HA, HJ2, HB⟩ := hcut
    cases kq with
    | zero => exact absurd HA.out (by simp [whiskref14_set.j0])
    | succ kj2 =>
      have H := HA.out
      clear HA
      simp only [whiskref14_set.j0] at H
      by_cases c8 : x20_2 = true
      · subst c8
        have H1 : (some (0, false)) = some (r1, r2) := by rw [if_pos rfl] at H; exact H
        clear H
        have H := H1
        clear H1
        simp only [Option.some.injEq, Prod.mk.injEq] at H
        obtain ⟨rfl, rfl⟩ := H
        go_wp2
        go_ret2
        exact ⟨by first | rfl | (simp [errW_none, errW_some] <;> rfl) | (simp [*, errW_none, errW_some] <;> rfl), by repeat (first | (with_reducible first | exact HB.out | apply below_alloc | apply pw_below_drewN | apply below_drew1) | exact HB.out)⟩
      · replace c8 := Bool.eq_false_iff.mpr c8
        subst c8
        have H1 : (if 1 < (l0.length : Int) then ((whiskref14_is.f ((rd_T54 l0 1).f0) ((rd_T54 l0 1).f1) 33).bind fun t112 => (if t112 = true then (whiskref14_set.j1 kj2 l0 a1 1 true) else ((whiskref14_is.f ((rd_T54 l0 1).f0) ((rd_T54 l0 1).f1) 94).bind fun t114 => (whiskref14_set.j1 kj2 l0 a1 1 t114)))) else (whiskref14_set.j1 kj2 l0 a1 1 false)) = some (r1, r2) := by rw [if_neg (show ¬ (false = true) by decide)] at H; exact H
        clear H
        have H := H1
        clear H1
        have HC9 := Aside0.mk H
        clear H
        go_upto_region 4 with (fail)
        go_cut [7] (fun v7 wc => ∃ (kq : Nat) (x7_8 : Bool), v7 = .bool x7_8 ∧ Aside0 (whiskref14_set.j1 kq l0 a1 1 x7_8 = some (r1, r2)) ∧ Aside0 (kq ≤ kj2) ∧ Aside0 (Below w.heap.size w wc))
        case first =>
          have H := HC9.out
          clear HC9
          by_cases c10 : 1 < (l0.length : Int)
          · rw [if_pos c10] at H
            have c10b0 : decide (1 < (l0.length : Int)) = true := decide_eq_true c10
            have c10b1 : decide (1 < l0.length) = true := decide_eq_true (by omega)
            clear c10
            (first | rw [c10b0] | (simp only [i64_w, i32_w]; rw [c10b0]) | skip)
            replace H := Option.bind_eq_some_iff.mp H
            obtain ⟨t112, A110, H⟩ := H
            replace H : (if t112 = true then (whiskref14_set.j1 kj2 l0 a1 1 true) else ((whiskref14_is.f ((rd_T54 l0 1).f0) ((rd_T54 l0 1).f1) 94).bind fun t114 => (whiskref14_set.j1 kj2 l0 a1 1 t114))) = some (r1, r2) := H
            have A11 := Aside0.mk A110
            clear A110
            by_cases c12 : t112 = true
            · subst c12
              have H1 : (whiskref14_set.j1 kj2 l0 a1 1 true) = some (r1, r2) := by rw [if_pos rfl] at H; exact H
              clear H
              have H := H1
              clear H1
              have H' := Aside0.mk H
              clear H
              have p111 : 0 ≤ (1 : Int) := (by omega)
              have q111 : 1 < (l0.length : Int) := of_decide_eq_true (by first | (with_reducible assumption) | assumption)
              obtain ⟨ad111, e111, hx111_0, hx111_1⟩ := at_T54 HR0.out 1 p111 q111
              cases e111
              (try simp only [show (1 : Int).toNat = 1 from rfl, Nat.reduceMul, Nat.reduceEqDiff, Go.Addr.add, ↓reduceIte] at hx111_0)
              (try simp only [show (1 : Int).toNat = 1 from rfl, Nat.reduceMul, Nat.reduceEqDiff, Go.Addr.add, ↓reduceIte] at hx111_1)
              have qi111 : (1 < l0.length) = True := eq_true (by omega)
              (try rw [show ((1 : Int)).toNat = 1 from rfl] at hx111_0)
              (try rw [show 1 * 2 = 2 from rfl] at hx111_0)
              (try rw [show ((1 : Int)).toNat = 1 from rfl] at hx111_1)
              (try rw [show 1 * 2 = 2 from rfl] at hx111_1)
              replace hx111_0 := (HB.out.cell (World.block_lt_of_cell? w _ hx111_0)).trans hx111_0
              replace hx111_1 := (HB.out.cell (World.block_lt_of_cell? w _ hx111_1)).trans hx111_1
              replace p111 := eq_true p111
              replace q111 := eq_true q111
              go_wp2_with (first | (go_at_call 35; (with_reducible refine (whiskref14_is.calls ((rd_T54 l0 1).f0) ((rd_T54 l0 1).f1) 33 true _ A11.out).mono ?_); rintro e w13 ⟨rfl, hb⟩; have n0_ := Aside0.mk (below_step (by repeat (first | (with_reducible first | exact HB.out | apply below_alloc | apply pw_below_drewN | apply below_drew1) | exact HB.out)) hb); clear HB; have HB := n0_; clear n0_; (try clear hb); (try clear hb2); (try clear hk); (try clear hi)))
              go_meet
              case rel => exact ⟨_, (true), (by first | rfl | (simp; done) | (simp [*]; done)), H', ⟨by have := HJ2.out; first | omega | exact Nat.le_refl _⟩, ⟨by repeat (first | (with_reducible first | exact HB.out | apply below_alloc | apply pw_below_drewN | apply below_drew1) | exact HB.out)⟩⟩
            · replace c12 := Bool.eq_false_iff.mpr c12
              subst c12
              have H1 : ((whiskref14_is.f ((rd_T54 l0 1).f0) ((rd_T54 l0 1).f1) 94).bind fun t114 => (whiskref14_set.j1 kj2 l0 a1 1 t114)) = some (r1, r2) := by rw [if_neg (show ¬ (false = true) by decide)] at H; exact H
              clear H
              have H := H1
              clear H1
              replace H := Option.bind_eq_some_iff.mp H
              obtain ⟨t114, A140, H⟩ := H
              replace H : (whiskref14_set.j1 kj2 l0 a1 1 t114) = some (r1, r2) := H
              have A14 := Aside0.mk A140
              clear A140
              have H' := Aside0.mk H
              clear H
              have p111 : 0 ≤ (1 : Int) := (by omega)
              have q111 : 1 < (l0.length : Int) := of_decide_eq_true (by first | (with_reducible assumption) | assumption)
              obtain ⟨ad111, e111, hx111_0, hx111_1⟩ := at_T54 HR0.out 1 p111 q111
              cases e111
              (try simp only [show (1 : Int).toNat = 1 from rfl, Nat.reduceMul, Nat.reduceEqDiff, Go.Addr.add, ↓reduceIte] at hx111_0)
              (try simp only [show (1 : Int).toNat = 1 from rfl, Nat.reduceMul, Nat.reduceEqDiff, Go.Addr.add, ↓reduceIte] at hx111_1)
              have qi111 : (1 < l0.length) = True := eq_true (by omega)
              (try rw [show ((1 : Int)).toNat = 1 from rfl] at hx111_0)
              (try rw [show 1 * 2 = 2 from rfl] at hx111_0)
              (try rw [show ((1 : Int)).toNat = 1 from rfl] at hx111_1)
              (try rw [show 1 * 2 = 2 from rfl] at hx111_1)
              replace hx111_0 := (HB.out.cell (World.block_lt_of_cell? w _ hx111_0)).trans hx111_0
              replace hx111_1 := (HB.out.cell (World.block_lt_of_cell? w _ hx111_1)).trans hx111_1
              replace p111 := eq_true p111
              replace q111 := eq_true q111
              go_wp2_with (first | (go_at_call 35; (with_reducible refine (whiskref14_is.calls ((rd_T54 l0 1).f0) ((rd_T54 l0 1).f1) 33 false _ A11.out).mono ?_); rintro e w15 ⟨rfl, hb⟩; have n0_ := Aside0.mk (below_step (by repeat (first | (with_reducible first | exact HB.out | apply below_alloc | apply pw_below_drewN | apply below_drew1) | exact HB.out)) hb); clear HB; have HB := n0_; clear n0_; (try clear hb); (try clear hb2); (try clear hk); (try clear hi); have p113 : 0 ≤ (1 : Int) := (by omega); have q113 : 1 < (l0.length : Int) := of_decide_eq_true (by first | (with_reducible assumption) | assumption); obtain ⟨ad113, e113, hx113_0, hx113_1⟩ := at_T54 HR0.out 1 p113 q113; obtain rfl : ad111 = ad113 := (by injection e113); (try simp only [show (1 : Int).toNat = 1 from rfl, Nat.reduceMul, Nat.reduceEqDiff, Go.Addr.add, ↓reduceIte] at hx113_0); (try simp only [show (1 : Int).toNat = 1 from rfl, Nat.reduceMul, Nat.reduceEqDiff, Go.Addr.add, ↓reduceIte] at hx113_1); have qi113 : (1 < l0.length) = True := eq_true (by omega); (try rw [show ((1 : Int)).toNat = 1 from rfl] at hx113_0); (try rw [show 1 * 2 = 2 from rfl] at hx113_0); (try rw [show ((1 : Int)).toNat = 1 from rfl] at hx113_1); (try rw [show 1 * 2 = 2 from rfl] at hx113_1); replace hx113_0 := (HB.out.cell (World.block_lt_of_cell? w _ hx113_0)).trans hx113_0; replace hx113_1 := (HB.out.cell (World.block_lt_of_cell? w _ hx113_1)).trans hx113_1; replace p113 := eq_true p113; replace q113 := eq_true q113) | (go_at_call 35; (with_reducible refine (whiskref14_is.calls ((rd_T54 l0 1).f0) ((rd_T54 l0 1).f1) 94 t114 _ A14.out).mono ?_); rintro e w16 ⟨rfl, hb⟩; have n0_ := Aside0.mk (below_step (by repeat (first | (with_reducible first | exact HB.out | apply below_alloc | apply pw_below_drewN | apply below_drew1) | exact HB.out)) hb); clear HB; have HB := n0_; clear n0_; (try clear hb); (try clear hb2); (try clear hk); (try clear hi)))
              go_meet
              case rel => exact ⟨_, (t114), (by first | rfl | (simp; done) | (simp [*]; done)), H', ⟨by have := HJ2.out; first | omega | exact Nat.le_refl _⟩, ⟨by repeat (first | (with_reducible first | exact HB.out | apply below_alloc | apply pw_below_drewN | apply below_drew1) | exact HB.out)⟩⟩
          · rw [if_neg c10] at H
            have c10b0 : decide (1 < (l0.length : Int)) = false := decide_eq_false c10
            have c10b1 : decide (1 < l0.length) = false := decide_eq_false (by omega)
            clear c10
            (first | rw [c10b0] | (simp only [i64_w, i32_w]; rw [c10b0]) | skip)
            have H' := Aside0.mk H
            clear H
            go_wp2
            go_meet
            case rel => exact ⟨_, (false), (by first | rfl | (simp; done) | (simp [*]; done)), H', ⟨by have := HJ2.out; first | omega | exact Nat.le_refl _⟩, ⟨by repeat (first | (with_reducible first | exact HB.out | apply below_alloc | apply pw_below_drewN | apply below_drew1) | exact HB.out)⟩⟩
        case rest =>
          clear HC9
          try clear c1
          try clear p1
          try clear q1
          try clear hx1
          try clear qi1
          try clear p2
          try clear c3
          try clear c4
          try clear c4b0
          try clear c4b1
          try clear c4b2
          try clear c5
          try clear c5b0
          try clear c5b1
          try clear c8
          try clear c10
          try clear c10b0
          try clear c10b1
          try clear p10
          try clear q10
          try clear hx10
          try clear qi10
          try clear p11
          try clear q11
          try clear hx11
          try clear qi11
          try clear c12
          try clear hx109_0
          try clear hx109_1
          try clear hx111_0
          try clear hx111_1
          try clear hx113_0
          try clear hx113_1
          try clear p1
          try clear p109
          try clear p111
          try clear p113
          try clear p2
          try clear q1
          try clear q109
          try clear q111
          try clear q113
          obtain ⟨kq, x7_8, rfl, HA, HJ8, HB⟩ := hcut
          cases kq with
          | zero => exact absurd HA.out (by simp [whiskref14_set.j1])
          | succ kj8 =>
            have H := HA.out
            clear HA
            simp only [whiskref14_set.j1] at H
            have HC17 := Aside0.mk H
            clear H
            go_upto_if 39 with (fail)
            go_cut [6] (fun v6 wc => ∃ (kq : Nat) (x6_16 : Int), v6 = .int .i64 x6_16 ∧ Aside0 (whiskref14_set.j2 kq l0 a1 x6_16 x7_8 = some (r1, r2)) ∧ Aside0 (kq ≤ kj8) ∧ Aside0 (Below w.heap.size w wc))
            case first =>
              have H := HC17.out
              clear HC17
              by_cases c18 : x7_8 = true
              · subst c18
                have H1 : (whiskref14_set.j2 kj8 l0 a1 (wrap64 (1 + 1)) true) = some (r1, r2) := by rw [if_pos rfl] at H; exact H
                clear H
                have H := H1
                clear H1
                have H' := Aside0.mk H
                clear H
                go_wp2
                go_meet
                case rel => exact ⟨_, (wrap64 (1 + 1)), (by first | rfl | (simp [wrap64]; done) | (simp; done) | (simp [*]; done)), H', ⟨by have := HJ2.out; have := HJ8.out; first | omega | exact Nat.le_refl _⟩, ⟨by repeat (first | (with_reducible first | exact HB.out | apply below_alloc | apply pw_below_drewN | apply below_drew1) | exact HB.out)⟩⟩
              · replace c18 := Bool.eq_false_iff.mpr c18
                subst c18
                have H1 : (whiskref14_set.j2 kj8 l0 a1 1 false) = some (r1, r2) := by rw [if_neg (show ¬ (false = true) by decide)] at H; exact H
                clear H
                have H := H1
                clear H1
                have H' := Aside0.mk H
                clear H
                go_wp2
                go_meet
                case rel => exact ⟨_, (1), (by first | rfl | (simp; done) | (simp [*]; done)), H', ⟨by have := HJ2.out; have := HJ8.out; first | omega | exact Nat.le_refl _⟩, ⟨by repeat (first | (with_reducible first | exact HB.out | apply below_alloc | apply pw_below_drewN | apply below_drew1) | exact HB.out)⟩⟩
            case rest =>
              clear HC17
              try clear c1
              try clear p1
              try clear q1
              try clear hx1
              try clear qi1
              try clear p2
              try clear c3
              try clear c4
              try clear c4b0
              try clear c4b1
              try clear c4b2
              try clear c5
              try clear c5b0
              try clear c5b1
              try clear p6
              try clear c8
              try clear c10
              try clear c10b0
              try clear c10b1
              try clear p10
              try clear q10
              try clear hx10
              try clear qi10
              try clear p11
              try clear q11
              try clear hx11
              try clear qi11
              try clear c12
              try clear c18
              try clear hx109_0
              try clear hx109_1
              try clear hx111_0
              try clear hx111_1
              try clear hx113_0
              try clear hx113_1
              try clear p1
              try clear p10
              try clear p109
              try clear p11
              try clear p111
              try clear p113
              try clear p2
              try clear q1
              try clear q10
              try clear q109
              try clear q11
              try clear q111
              try clear q113
              obtain ⟨kq, x6_16, rfl, HA, HJ16, HB⟩ := hcut
              cases kq with
              | zero => exact absurd HA.out (by simp [whiskref14_set.j2])
              | succ kj16 =>
                have H := HA.out
                clear HA
                simp only [whiskref14_set.j2] at H
                have HC19 := Aside0.mk H
                clear H
                go_upto_block 0 with (fail)
                go_cut [8] (fun v8 wc => ∃ (kq : Nat) (x8_18 : Int), v8 = .int .i64 x8_18 ∧ Aside0 (whiskref14_set.j4 kq l0 a1 x6_16 x7_8 x8_18 = some (r1, r2)) ∧ Aside0 (kq ≤ kj16) ∧ Aside0 (Below w.heap.size w wc))
                case first =>
                  have H := HC19.out
                  clear HC19
                  have H' := Aside0.mk H
                  clear H
                  go_wp2
                  go_loopg [8] kj16 (fun kq v8 w' => ∃ (x8_4 : Int), v8 = .int .i64 x8_4 ∧ Aside0 (whiskref14_set.l0 kq l0 a1 x6_16 x7_8 x8_4 = some (r1, r2)) ∧ Aside0 (kq ≤ kj16) ∧ Aside0 (Below w.heap.size w w'))
                  case atStart => exact ⟨(wrap64 (x6_16 + 1)), (by first | rfl | (simp; done) | (simp [*]; done)), H', ⟨Nat.le_refl _⟩, ⟨by repeat (first | (with_reducible first | exact HB.out | apply below_alloc | apply pw_below_drewN | apply below_drew1) | exact HB.out)⟩⟩
                  case round =>
                    clear H'
                    try clear c1
                    try clear p1
                    try clear q1
                    try clear hx1
                    try clear qi1
                    try clear p2
                    try clear c3
                    try clear c4
                    try clear c4b0
                    try clear c4b1
                    try clear c4b2
                    try clear c5
                    try clear c5b0
                    try clear c5b1
                    try clear p6
                    try clear c8
                    try clear c10
                    try clear c10b0
                    try clear c10b1
                    try clear p10
                    try clear q10
                    try clear hx10
                    try clear qi10
                    try clear p11
                    try clear q11
                    try clear hx11
                    try clear qi11
                    try clear c12
                    try clear c18
                    try clear hx109_0
                    try clear hx109_1
                    try clear hx111_0
                    try clear hx111_1
                    try clear hx113_0
                    try clear hx113_1
                    try clear p1
                    try clear p10
                    try clear p109
                    try clear p11
                    try clear p111
                    try clear p113
                    try clear p2
                    try clear p6
                    try clear q1
                    try clear q10
                    try clear q109
                    try clear q11
                    try clear q111
                    try clear q113
                    obtain ⟨x8_4, rfl, HA, HK4, HB⟩ := hrel
                    cases gk with
                    | zero => exact absurd HA.out (by simp [whiskref14_set.l0])
                    | succ k4 =>
                      have H := HA.out
                      clear HA
                      simp only [whiskref14_set.l0] at H
                      by_cases c20 : x8_4 < (l0.length : Int)
                      · rw [if_pos c20] at H
                        have c20b0 : decide (x8_4 < (l0.length : Int)) = true := decide_eq_true c20
                        clear c20
                        (first | rw [c20b0] | (simp only [i64_w, i32_w]; rw [c20b0]) | skip)
                        by_cases c21 : 0 ≤ x8_4
                        · rw [if_pos c21] at H
                          have c21b0 : decide (0 ≤ x8_4) = true := decide_eq_true c21
                          clear c21
                          replace H := Option.bind_eq_some_iff.mp H
                          obtain ⟨t116, A220, H⟩ := H
                          replace H : (if t116 = true then (whiskref14_set.j4 k4 l0 a1 x6_16 x7_8 x8_4) else (whiskref14_set.l0 k4 l0 a1 x6_16 x7_8 (wrap64 (x8_4 + 1)))) = some (r1, r2) := H
                          have A22 := Aside0.mk A220
                          clear A220
                          by_cases c23 : t116 = true
                          · subst c23
                            have H1 : (whiskref14_set.j4 k4 l0 a1 x6_16 x7_8 x8_4) = some (r1, r2) := by rw [if_pos rfl] at H; exact H
                            clear H
                            have H := H1
                            clear H1
                            have H' := Aside0.mk H
                            clear H
                            have p115 : 0 ≤ (x8_4 : Int) := of_decide_eq_true (by first | (with_reducible assumption) | assumption)
                            have q115 : x8_4 < (l0.length : Int) := of_decide_eq_true (by first | (with_reducible assumption) | assumption)
                            obtain ⟨ad115, e115, hx115_0, hx115_1⟩ := at_T54 HR0.out x8_4 p115 q115
                            cases e115
                            replace hx115_0 := (HB.out.cell (World.block_lt_of_cell? w _ hx115_0)).trans hx115_0
                            replace hx115_1 := (HB.out.cell (World.block_lt_of_cell? w _ hx115_1)).trans hx115_1
                            replace p115 := eq_true p115
                            replace q115 := eq_true q115
                            go_wp2_with (first | (go_at_call 35; (with_reducible refine (whiskref14_is.calls ((rd_T54 l0 x8_4).f0) ((rd_T54 l0 x8_4).f1) 93 true _ A22.out).mono ?_); rintro e w24 ⟨rfl, hb⟩; have n0_ := Aside0.mk (below_step (by repeat (first | (with_reducible first | exact HB.out | apply below_alloc | apply pw_below_drewN | apply below_drew1) | exact HB.out)) hb); clear HB; have HB := n0_; clear n0_; (try clear hb); (try clear hb2); (try clear hk); (try clear hi)))
                            go_meet
                            case rel => exact ⟨_, (x8_4), (by first | rfl | (simp; done) | (simp [*]; done)), H', ⟨by have := HJ2.out; have := HJ8.out; have := HJ16.out; have := HK4.out; first | omega | exact Nat.le_refl _⟩, ⟨by repeat (first | (with_reducible first | exact HB.out | apply below_alloc | apply pw_below_drewN | apply below_drew1) | exact HB.out)⟩⟩
                          · replace c23 := Bool.eq_false_iff.mpr c23
                            subst c23
                            have H1 : (whiskref14_set.l0 k4 l0 a1 x6_16 x7_8 (wrap64 (x8_4 + 1))) = some (r1, r2) := by rw [if_neg (show ¬ (false = true) by decide)] at H; exact H
                            clear H
                            have H := H1
                            clear H1
                            have H' := Aside0.mk H
                            clear H
                            have p115 : 0 ≤ (x8_4 : Int) := of_decide_eq_true (by first | (with_reducible assumption) | assumption)
                            have q115 : x8_4 < (l0.length : Int) := of_decide_eq_true (by first | (with_reducible assumption) | assumption)
                            obtain ⟨ad115, e115, hx115_0, hx115_1⟩ := at_T54 HR0.out x8_4 p115 q115
                            cases e115
                            replace hx115_0 := (HB.out.cell (World.block_lt_of_cell? w _ hx115_0)).trans hx115_0
                            replace hx115_1 := (HB.out.cell (World.block_lt_of_cell? w _ hx115_1)).trans hx115_1
                            replace p115 := eq_true p115
                            replace q115 := eq_true q115
                            go_wp2_with (first | (go_at_call 35; (with_reducible refine (whiskref14_is.calls ((rd_T54 l0 x8_4).f0) ((rd_T54 l0 x8_4).f1) 93 false _ A22.out).mono ?_); rintro e w25 ⟨rfl, hb⟩; have n0_ := Aside0.mk (below_step (by repeat (first | (with_reducible first | exact HB.out | apply below_alloc | apply pw_below_drewN | apply below_drew1) | exact HB.out)) hb); clear HB; have HB := n0_; clear n0_; (try clear hb); (try clear hb2); (try clear hk); (try clear hi)))
                            go_roundg k4
                            case measure => have := HJ2.out; have := HJ8.out; have := HJ16.out; have := HK4.out; omega
                            case rel => exact ⟨(wrap64 (x8_4 + 1)), (by first | rfl | (simp; done) | (simp [*]; done)), H', ⟨by have := HJ2.out; have := HJ8.out; have := HJ16.out; have := HK4.out; omega⟩, ⟨by repeat (first | (with_reducible first | exact HB.out | apply below_alloc | apply pw_below_drewN | apply below_drew1) | exact HB.out)⟩⟩
                        · rw [if_neg c21] at H
                          exact absurd H (by simp)
                      · rw [if_neg c20] at H
                        have c20b0 : decide (x8_4 < (l0.length : Int)) = false := decide_eq_false c20
                        clear c20
                        (first | rw [c20b0] | (simp only [i64_w, i32_w]; rw [c20b0]) | skip)
                        have H' := Aside0.mk H
                        clear H
                        go_wp2
                        go_meet
                        case rel => exact ⟨_, (x8_4), (by first | rfl | (simp; done) | (simp [*]; done)), H', ⟨by have := HJ2.out; have := HJ8.out; have := HJ16.out; have := HK4.out; first | omega | exact Nat.le_refl _⟩, ⟨by repeat (first | (with_reducible first | exact HB.out | apply below_alloc | apply pw_below_drewN | apply below_drew1) | exact HB.out)⟩⟩
                case rest =>
                  clear HC19
                  try clear c1
                  try clear p1
                  try clear q1
                  try clear hx1
                  try clear qi1
                  try clear c2
                  try clear p2
                  try clear c3
                  try clear c4
                  try clear c4b0
                  try clear c4b1
                  try clear c4b2
                  try clear c5
                  try clear c5b0
                  try clear c5b1
                  try clear p6
                  try clear c8
                  try clear c10
                  try clear c10b0
                  try clear c10b1
                  try clear p10
                  try clear q10
                  try clear hx10
                  try clear qi10
                  try clear p11
                  try clear q11
                  try clear hx11
                  try clear qi11
                  try clear c12
                  try clear c18
                  try clear c20
                  try clear c20b0
                  try clear c21
                  try clear c21b0
                  try clear c23
                  try clear hx109_0
                  try clear hx109_1
                  try clear hx111_0
                  try clear hx111_1
                  try clear hx113_0
                  try clear hx113_1
                  try clear hx115_0
                  try clear hx115_1
                  try clear p1
                  try clear p10
                  try clear p109
                  try clear p11
                  try clear p111
                  try clear p113
                  try clear p115
                  try clear p2
                  try clear p6
                  try clear q1
                  try clear q10
                  try clear q109
                  try clear q11
                  try clear q111
                  try clear q113
                  try clear q115
                  obtain ⟨kq, x8_18, rfl, HA, HJ18, HB⟩ := hcut
                  cases kq with
                  | zero => exact absurd HA.out (by simp [whiskref14_set.j4])
                  | succ kj18 =>
                    have H := HA.out
                    clear HA
                    simp only [whiskref14_set.j4] at H
                    by_cases c26 : x8_18 ≥ (l0.length : Int)
                    · rw [if_pos c26] at H
                      have c26b0 : decide ((l0.length : Int) ≤ x8_18) = true := decide_eq_true c26
                      clear c26
                      simp only [Option.some.injEq, Prod.mk.injEq] at H
                      obtain ⟨rfl, rfl⟩ := H
                      go_wp2
                      go_ret2
                      exact ⟨by first | rfl | (simp [errW_none, errW_some] <;> rfl) | (simp [*, errW_none, errW_some] <;> rfl), by repeat (first | (with_reducible first | exact HB.out | apply below_alloc | apply pw_below_drewN | apply below_drew1) | exact HB.out)⟩
                    · rw [if_neg c26] at H
                      have c26b0 : decide ((l0.length : Int) ≤ x8_18) = false := decide_eq_false c26
                      clear c26
                      have H' := Aside0.mk H
                      clear H
                      go_wp2
                      go_loopg [9, 10] kj18 (fun kq v9 v10 w' => ∃ (x9_5 : Bool) (x10_5 : Int), v9 = .bool x9_5 ∧ v10 = .int .i64 x10_5 ∧ Aside0 (whiskref14_set.l1 kq l0 a1 x7_8 x8_18 x9_5 x10_5 = some (r1, r2)) ∧ Aside0 (kq ≤ kj18) ∧ Aside0 (Below w.heap.size w w'))
                      case atStart => exact ⟨(false), (x6_16), (by first | rfl | (simp; done) | (simp [*]; done)), (by first | rfl | (simp; done) | (simp [*]; done)), H', ⟨Nat.le_refl _⟩, ⟨by repeat (first | (with_reducible first | exact HB.out | apply below_alloc | apply pw_below_drewN | apply below_drew1) | exact HB.out)⟩⟩
                      case round =>
                        clear H'
                        try clear c1
                        try clear p1
                        try clear q1
                        try clear hx1
                        try clear qi1
                        try clear c2
                        try clear p2
                        try clear c3
                        try clear c4
                        try clear c4b0
                        try clear c4b1
                        try clear c4b2
                        try clear c5
                        try clear c5b0
                        try clear c5b1
                        try clear p6
                        try clear c8
                        try clear c10
                        try clear c10b0
                        try clear c10b1
                        try clear p10
                        try clear q10
                        try clear hx10
                        try clear qi10
                        try clear p11
                        try clear q11
                        try clear hx11
                        try clear qi11
                        try clear c12
                        try clear c18
                        try clear c20
                        try clear c20b0
                        try clear c21
                        try clear c21b0
                        try clear c23
                        try clear c26
                        try clear c26b0
                        try clear hx109_0
                        try clear hx109_1
                        try clear hx111_0
                        try clear hx111_1
                        try clear hx113_0
                        try clear hx113_1
                        try clear hx115_0
                        try clear hx115_1
                        try clear p1
                        try clear p10
                        try clear p109
                        try clear p11
                        try clear p111
                        try clear p113
                        try clear p115
                        try clear p2
                        try clear p6
                        try clear q1
                        try clear q10
                        try clear q109
                        try clear q11
                        try clear q111
                        try clear q113
                        try clear q115
                        obtain ⟨x9_5, x10_5, rfl, rfl, HA, HK5, HB⟩ := hrel
                        cases gk with
                        | zero => exact absurd HA.out (by simp [whiskref14_set.l1])
                        | succ k5 =>
                          have H := HA.out
                          clear HA
                          simp only [whiskref14_set.l1] at H
                          by_cases c27 : x10_5 < x8_18
                          · rw [if_pos c27] at H
                            have c27b0 : decide (x10_5 < x8_18) = true := decide_eq_true c27
                            clear c27
                            by_cases c28 : (wrap64 (x10_5 + 2)) < x8_18
                            · rw [if_pos c28] at H
                              have c28b0 : decide ((wrap64 (x10_5 + 2)) < x8_18) = true := decide_eq_true c28
                              clear c28
                              obtain ⟨ji29, hji29⟩ : ∃ j_ : Int, (wrap64 (x10_5 + 1)) = j_ := ⟨_, rfl⟩
                              replace H : (if 0 ≤ (ji29) then (if (ji29) < (l0.length : Int) then ((whiskref14_is.f ((rd_T54 l0 (ji29)).f0) ((rd_T54 l0 (ji29)).f1) 45).bind fun t118 => (if t118 = true then (if x9_5 = true then (whiskref14_set.l1 k5 l0 a1 x7_8 x8_18 true (wrap64 (x10_5 + 3))) else (if 0 ≤ x10_5 then (if x10_5 < (l0.length : Int) then (if a1 ≥ ((rd_T54 l0 x10_5).f0) then (if 0 ≤ (wrap64 (x10_5 + 2)) then (if (wrap64 (x10_5 + 2)) < (l0.length : Int) then (whiskref14_set.l1 k5 l0 a1 x7_8 x8_18 (decide (a1 ≤ ((rd_T54 l0 (wrap64 (x10_5 + 2))).f0))) (wrap64 (x10_5 + 3))) else (none)) else (none)) else (whiskref14_set.l1 k5 l0 a1 x7_8 x8_18 false (wrap64 (x10_5 + 3)))) else (none)) else (none))) else (if x9_5 = true then (whiskref14_set.l1 k5 l0 a1 x7_8 x8_18 true ji29) else (if 0 ≤ x10_5 then (if x10_5 < (l0.length : Int) then (whiskref14_set.l1 k5 l0 a1 x7_8 x8_18 (a1 == ((rd_T54 l0 x10_5).f0)) ji29) else (none)) else (none))))) else (none)) else (none)) = some (r1, r2) := by first | (rw [hji29] at H; exact H) | (simp only [hji29] at H ⊢; exact H)
                              have hji29w : (IntKind.i64.wrap (x10_5 + 1)) = ji29 := (i64_w _).trans hji29
                              by_cases c30 : 0 ≤ (ji29)
                              · rw [if_pos c30] at H
                                have c30b0 : decide (0 ≤ (ji29)) = true := decide_eq_true c30
                                clear c30
                                by_cases c31 : (ji29) < (l0.length : Int)
                                · rw [if_pos c31] at H
                                  have c31b0 : decide ((ji29) < (l0.length : Int)) = true := decide_eq_true c31
                                  clear c31
                                  replace H := Option.bind_eq_some_iff.mp H
                                  obtain ⟨t118, A320, H⟩ := H
                                  replace H : (if t118 = true then (if x9_5 = true then (whiskref14_set.l1 k5 l0 a1 x7_8 x8_18 true (wrap64 (x10_5 + 3))) else (if 0 ≤ x10_5 then (if x10_5 < (l0.length : Int) then (if a1 ≥ ((rd_T54 l0 x10_5).f0) then (if 0 ≤ (wrap64 (x10_5 + 2)) then (if (wrap64 (x10_5 + 2)) < (l0.length : Int) then (whiskref14_set.l1 k5 l0 a1 x7_8 x8_18 (decide (a1 ≤ ((rd_T54 l0 (wrap64 (x10_5 + 2))).f0))) (wrap64 (x10_5 + 3))) else (none)) else (none)) else (whiskref14_set.l1 k5 l0 a1 x7_8 x8_18 false (wrap64 (x10_5 + 3)))) else (none)) else (none))) else (if x9_5 = true then (whiskref14_set.l1 k5 l0 a1 x7_8 x8_18 true ji29) else (if 0 ≤ x10_5 then (if x10_5 < (l0.length : Int) then (whiskref14_set.l1 k5 l0 a1 x7_8 x8_18 (a1 == ((rd_T54 l0 x10_5).f0)) ji29) else (none)) else (none)))) = some (r1, r2) := H
                                  have A32 := Aside0.mk A320
                                  clear A320
                                  by_cases c33 : t118 = true
                                  · subst c33
                                    have H1 : (if x9_5 = true then (whiskref14_set.l1 k5 l0 a1 x7_8 x8_18 true (wrap64 (x10_5 + 3))) else (if 0 ≤ x10_5 then (if x10_5 < (l0.length : Int) then (if a1 ≥ ((rd_T54 l0 x10_5).f0) then (if 0 ≤ (wrap64 (x10_5 + 2)) then (if (wrap64 (x10_5 + 2)) < (l0.length : Int) then (whiskref14_set.l1 k5 l0 a1 x7_8 x8_18 (decide (a1 ≤ ((rd_T54 l0 (wrap64 (x10_5 + 2))).f0))) (wrap64 (x10_5 + 3))) else (none)) else (none)) else (whiskref14_set.l1 k5 l0 a1 x7_8 x8_18 false (wrap64 (x10_5 + 3)))) else (none)) else (none))) = some (r1, r2) := by rw [if_pos rfl] at H; exact H
                                    clear H
                                    have H := H1
                                    clear H1
                                    by_cases c34 : x9_5 = true
                                    · subst c34
                                      have H1 : (whiskref14_set.l1 k5 l0 a1 x7_8 x8_18 true (wrap64 (x10_5 + 3))) = some (r1, r2) := by rw [if_pos rfl] at H; exact H
                                      clear H
                                      have H := H1
                                      clear H1
                                      have H' := Aside0.mk H
                                      clear H
                                      have p117 : 0 ≤ ((ji29) : Int) := of_decide_eq_true (by first | (with_reducible assumption) | assumption)
                                      have q117 : (ji29) < (l0.length : Int) := of_decide_eq_true (by first | (with_reducible assumption) | assumption)
                                      obtain ⟨ad117, e117, hx117_0, hx117_1⟩ := at_T54 HR0.out (ji29) p117 q117
                                      cases e117
                                      replace hx117_0 := (HB.out.cell (World.block_lt_of_cell? w _ hx117_0)).trans hx117_0
                                      replace hx117_1 := (HB.out.cell (World.block_lt_of_cell? w _ hx117_1)).trans hx117_1
                                      replace p117 := eq_true p117
                                      replace q117 := eq_true q117
                                      go_wp2_with (first | (go_at_call 35; (with_reducible refine (whiskref14_is.calls ((rd_T54 l0 (ji29)).f0) ((rd_T54 l0 (ji29)).f1) 45 true _ A32.out).mono ?_); rintro e w35 ⟨rfl, hb⟩; have n0_ := Aside0.mk (below_step (by repeat (first | (with_reducible first | exact HB.out | apply below_alloc | apply pw_below_drewN | apply below_drew1) | exact HB.out)) hb); clear HB; have HB := n0_; clear n0_; (try clear hb); (try clear hb2); (try clear hk); (try clear hi)))
                                      go_roundg k5
                                      case measure => have := HJ2.out; have := HJ8.out; have := HJ16.out; have := HJ18.out; have := HK5.out; omega
                                      case rel => exact ⟨(true), (wrap64 (x10_5 + 3)), (by first | rfl | (simp; done) | (simp [*]; done)), (by first | rfl | (simp; done) | (simp [*]; done)), H', ⟨by have := HJ2.out; have := HJ8.out; have := HJ16.out; have := HJ18.out; have := HK5.out; omega⟩, ⟨by repeat (first | (with_reducible first | exact HB.out | apply below_alloc | apply pw_below_drewN | apply below_drew1) | exact HB.out)⟩⟩
                                    · replace c34 := Bool.eq_false_iff.mpr c34
                                      subst c34
                                      have H1 : (if 0 ≤ x10_5 then (if x10_5 < (l0.length : Int) then (if a1 ≥ ((rd_T54 l0 x10_5).f0) then (if 0 ≤ (wrap64 (x10_5 + 2)) then (if (wrap64 (x10_5 + 2)) < (l0.length : Int) then (whiskref14_set.l1 k5 l0 a1 x7_8 x8_18 (decide (a1 ≤ ((rd_T54 l0 (wrap64 (x10_5 + 2))).f0))) (wrap64 (x10_5 + 3))) else (none)) else (none)) else (whiskref14_set.l1 k5 l0 a1 x7_8 x8_18 false (wrap64 (x10_5 + 3)))) else (none)) else (none)) = some (r1, r2) := by rw [if_neg (show ¬ (false = true) by decide)] at H; exact H
                                      clear H
                                      have H := H1
                                      clear H1
                                      by_cases c36 : 0 ≤ x10_5
                                      · rw [if_pos c36] at H
                                        have c36b0 : decide (0 ≤ x10_5) = true := decide_eq_true c36
                                        clear c36
                                        by_cases c37 : x10_5 < (l0.length : Int)
                                        · rw [if_pos c37] at H
                                          have c37b0 : decide (x10_5 < (l0.length : Int)) = true := decide_eq_true c37
                                          clear c37
                                          by_cases c38 : a1 ≥ ((rd_T54 l0 x10_5).f0)
                                          · rw [if_pos c38] at H
                                            have c38b0 : decide (((rd_T54 l0 x10_5).f0) ≤ a1) = true := decide_eq_true c38
                                            clear c38
                                            obtain ⟨ji39, hji39⟩ : ∃ j_ : Int, (wrap64 (x10_5 + 2)) = j_ := ⟨_, rfl⟩
                                            replace H : (if 0 ≤ (ji39) then (if (ji39) < (l0.length : Int) then (whiskref14_set.l1 k5 l0 a1 x7_8 x8_18 (decide (a1 ≤ ((rd_T54 l0 (ji39)).f0))) (wrap64 (x10_5 + 3))) else (none)) else (none)) = some (r1, r2) := by first | (rw [hji39] at H; exact H) | (simp only [hji39] at H ⊢; exact H)
                                            (try rw [hji39] at c28b0)
                                            (try rw [hji39] at A32)
                                            have hji39w : (IntKind.i64.wrap (x10_5 + 2)) = ji39 := (i64_w _).trans hji39
                                            by_cases c40 : 0 ≤ (ji39)
                                            · rw [if_pos c40] at H
                                              have c40b0 : decide (0 ≤ (ji39)) = true := decide_eq_true c40
                                              clear c40
                                              by_cases c41 : (ji39) < (l0.length : Int)
                                              · rw [if_pos c41] at H
                                                have c41b0 : decide ((ji39) < (l0.length : Int)) = true := decide_eq_true c41
                                                clear c41
                                                have H' := Aside0.mk H
                                                clear H
                                                have p117 : 0 ≤ ((ji29) : Int) := of_decide_eq_true (by first | (with_reducible assumption) | assumption)
                                                have q117 : (ji29) < (l0.length : Int) := of_decide_eq_true (by first | (with_reducible assumption) | assumption)
                                                obtain ⟨ad117, e117, hx117_0, hx117_1⟩ := at_T54 HR0.out (ji29) p117 q117
                                                cases e117
                                                replace hx117_0 := (HB.out.cell (World.block_lt_of_cell? w _ hx117_0)).trans hx117_0
                                                replace hx117_1 := (HB.out.cell (World.block_lt_of_cell? w _ hx117_1)).trans hx117_1
                                                replace p117 := eq_true p117
                                                replace q117 := eq_true q117
                                                go_wp2_with (first | (go_at_call 35; (with_reducible refine (whiskref14_is.calls ((rd_T54 l0 (ji29)).f0) ((rd_T54 l0 (ji29)).f1) 45 true _ A32.out).mono ?_); rintro e w42 ⟨rfl, hb⟩; have n0_ := Aside0.mk (below_step (by repeat (first | (with_reducible first | exact HB.out | apply below_alloc | apply pw_below_drewN | apply below_drew1) | exact HB.out)) hb); clear HB; have HB := n0_; clear n0_; (try clear hb); (try clear hb2); (try clear hk); (try clear hi); have p119 : 0 ≤ (x10_5 : Int) := of_decide_eq_true (by first | (with_reducible assumption) | assumption); have q119 : x10_5 < (l0.length : Int) := of_decide_eq_true (by first | (with_reducible assumption) | assumption); obtain ⟨ad119, e119, hx119_0, hx119_1⟩ := at_T54 HR0.out x10_5 p119 q119; obtain rfl : ad117 = ad119 := (by injection e119); replace hx119_0 := (HB.out.cell (World.block_lt_of_cell? w _ hx119_0)).trans hx119_0; replace hx119_1 := (HB.out.cell (World.block_lt_of_cell? w _ hx119_1)).trans hx119_1; replace p119 := eq_true p119; replace q119 := eq_true q119; have p120 : 0 ≤ ((ji39) : Int) := of_decide_eq_true (by first | (with_reducible assumption) | assumption); have q120 : (ji39) < (l0.length : Int) := of_decide_eq_true (by first | (with_reducible assumption) | assumption); obtain ⟨ad120, e120, hx120_0, hx120_1⟩ := at_T54 HR0.out (ji39) p120 q120; obtain rfl : ad117 = ad120 := (by injection e120); replace hx120_0 := (HB.out.cell (World.block_lt_of_cell? w _ hx120_0)).trans hx120_0; replace hx120_1 := (HB.out.cell (World.block_lt_of_cell? w _ hx120_1)).trans hx120_1; replace p120 := eq_true p120; replace q120 := eq_true q120))
                                                go_roundg k5
                                                case measure => have := HJ2.out; have := HJ8.out; have := HJ16.out; have := HJ18.out; have := HK5.out; omega
                                                case rel => exact ⟨(decide (a1 ≤ ((rd_T54 l0 (ji39)).f0))), (wrap64 (x10_5 + 3)), (by first | rfl | (simp; done) | (simp only [← hji39] <;> (first | rfl | simp)) | (simp [*]; done)), (by first | rfl | (simp; done) | (simp [*]; done)), H', ⟨by have := HJ2.out; have := HJ8.out; have := HJ16.out; have := HJ18.out; have := HK5.out; omega⟩, ⟨by repeat (first | (with_reducible first | exact HB.out | apply below_alloc | apply pw_below_drewN | apply below_drew1) | exact HB.out)⟩⟩
                                              · rw [if_neg c41] at H
                                                exact absurd H (by simp)
                                            · rw [if_neg c40] at H
                                              exact absurd H (by simp)
                                          · rw [if_neg c38] at H
                                            have c38b0 : decide (((rd_T54 l0 x10_5).f0) ≤ a1) = false := decide_eq_false c38
                                            clear c38
                                            have H' := Aside0.mk H
                                            clear H
                                            have p117 : 0 ≤ ((ji29) : Int) := of_decide_eq_true (by first | (with_reducible assumption) | assumption)
                                            have q117 : (ji29) < (l0.length : Int) := of_decide_eq_true (by first | (with_reducible assumption) | assumption)
                                            obtain ⟨ad117, e117, hx117_0, hx117_1⟩ := at_T54 HR0.out (ji29) p117 q117
                                            cases e117
                                            replace hx117_0 := (HB.out.cell (World.block_lt_of_cell? w _ hx117_0)).trans hx117_0
                                            replace hx117_1 := (HB.out.cell (World.block_lt_of_cell? w _ hx117_1)).trans hx117_1
                                            replace p117 := eq_true p117
                                            replace q117 := eq_true q117
                                            go_wp2_with (first | (go_at_call 35; (with_reducible refine (whiskref14_is.calls ((rd_T54 l0 (ji29)).f0) ((rd_T54 l0 (ji29)).f1) 45 true _ A32.out).mono ?_); rintro e w43 ⟨rfl, hb⟩; have n0_ := Aside0.mk (below_step (by repeat (first | (with_reducible first | exact HB.out | apply below_alloc | apply pw_below_drewN | apply below_drew1) | exact HB.out)) hb); clear HB; have HB := n0_; clear n0_; (try clear hb); (try clear hb2); (try clear hk); (try clear hi); have p119 : 0 ≤ (x10_5 : Int) := of_decide_eq_true (by first | (with_reducible assumption) | assumption); have q119 : x10_5 < (l0.length : Int) := of_decide_eq_true (by first | (with_reducible assumption) | assumption); obtain ⟨ad119, e119, hx119_0, hx119_1⟩ := at_T54 HR0.out x10_5 p119 q119; obtain rfl : ad117 = ad119 := (by injection e119); replace hx119_0 := (HB.out.cell (World.block_lt_of_cell? w _ hx119_0)).trans hx119_0; replace hx119_1 := (HB.out.cell (World.block_lt_of_cell? w _ hx119_1)).trans hx119_1; replace p119 := eq_true p119; replace q119 := eq_true q119))
                                            go_roundg k5
                                            case measure => have := HJ2.out; have := HJ8.out; have := HJ16.out; have := HJ18.out; have := HK5.out; omega
                                            case rel => exact ⟨(false), (wrap64 (x10_5 + 3)), (by first | rfl | (simp; done) | (simp [*]; done)), (by first | rfl | (simp; done) | (simp [*]; done)), H', ⟨by have := HJ2.out; have := HJ8.out; have := HJ16.out; have := HJ18.out; have := HK5.out; omega⟩, ⟨by repeat (first | (with_reducible first | exact HB.out | apply below_alloc | apply pw_below_drewN | apply below_drew1) | exact HB.out)⟩⟩
                                        · rw [if_neg c37] at H
                                          exact absurd H (by simp)
                                      · rw [if_neg c36] at H
                                        exact absurd H (by simp)
                                  · replace c33 := Bool.eq_false_iff.mpr c33
                                    subst c33
                                    have H1 : (if x9_5 = true then (whiskref14_set.l1 k5 l0 a1 x7_8 x8_18 true ji29) else (if 0 ≤ x10_5 then (if x10_5 < (l0.length : Int) then (whiskref14_set.l1 k5 l0 a1 x7_8 x8_18 (a1 == ((rd_T54 l0 x10_5).f0)) ji29) else (none)) else (none))) = some (r1, r2) := by rw [if_neg (show ¬ (false = true) by decide)] at H; exact H
                                    clear H
                                    have H := H1
                                    clear H1
                                    by_cases c44 : x9_5 = true
                                    · subst c44
                                      have H1 : (whiskref14_set.l1 k5 l0 a1 x7_8 x8_18 true ji29) = some (r1, r2) := by rw [if_pos rfl] at H; exact H
                                      clear H
                                      have H := H1
                                      clear H1
                                      have H' := Aside0.mk H
                                      clear H
                                      have p117 : 0 ≤ ((ji29) : Int) := of_decide_eq_true (by first | (with_reducible assumption) | assumption)
                                      have q117 : (ji29) < (l0.length : Int) := of_decide_eq_true (by first | (with_reducible assumption) | assumption)
                                      obtain ⟨ad117, e117, hx117_0, hx117_1⟩ := at_T54 HR0.out (ji29) p117 q117
                                      cases e117
                                      replace hx117_0 := (HB.out.cell (World.block_lt_of_cell? w _ hx117_0)).trans hx117_0
                                      replace hx117_1 := (HB.out.cell (World.block_lt_of_cell? w _ hx117_1)).trans hx117_1
                                      replace p117 := eq_true p117
                                      replace q117 := eq_true q117
                                      go_wp2_with (first | (go_at_call 35; (with_reducible refine (whiskref14_is.calls ((rd_T54 l0 (ji29)).f0) ((rd_T54 l0 (ji29)).f1) 45 false _ A32.out).mono ?_); rintro e w45 ⟨rfl, hb⟩; have n0_ := Aside0.mk (below_step (by repeat (first | (with_reducible first | exact HB.out | apply below_alloc | apply pw_below_drewN | apply below_drew1) | exact HB.out)) hb); clear HB; have HB := n0_; clear n0_; (try clear hb); (try clear hb2); (try clear hk); (try clear hi)))
                                      go_roundg k5
                                      case measure => have := HJ2.out; have := HJ8.out; have := HJ16.out; have := HJ18.out; have := HK5.out; omega
                                      case rel => exact ⟨(true), (ji29), (by first | rfl | (simp; done) | (simp [*]; done)), (by first | rfl | (simp; done) | (simp only [← hji29] <;> (first | rfl | simp)) | (simp [*]; done)), H', ⟨by have := HJ2.out; have := HJ8.out; have := HJ16.out; have := HJ18.out; have := HK5.out; omega⟩, ⟨by repeat (first | (with_reducible first | exact HB.out | apply below_alloc | apply pw_below_drewN | apply below_drew1) | exact HB.out)⟩⟩
                                    · replace c44 := Bool.eq_false_iff.mpr c44
                                      subst c44
                                      have H1 : (if 0 ≤ x10_5 then (if x10_5 < (l0.length : Int) then (whiskref14_set.l1 k5 l0 a1 x7_8 x8_18 (a1 == ((rd_T54 l0 x10_5).f0)) ji29) else (none)) else (none)) = some (r1, r2) := by rw [if_neg (show ¬ (false = true) by decide)] at H; exact H
                                      clear H
                                      have H := H1
                                      clear H1
                                      by_cases c46 : 0 ≤ x10_5
                                      · rw [if_pos c46] at H
                                        have c46b0 : decide (0 ≤ x10_5) = true := decide_eq_true c46
                                        clear c46
                                        by_cases c47 : x10_5 < (l0.length : Int)
                                        · rw [if_pos c47] at H
                                          have c47b0 : decide (x10_5 < (l0.length : Int)) = true := decide_eq_true c47
                                          clear c47
                                          have H' := Aside0.mk H
                                          clear H
                                          have p117 : 0 ≤ ((ji29) : Int) := of_decide_eq_true (by first | (with_reducible assumption) | assumption)
                                          have q117 : (ji29) < (l0.length : Int) := of_decide_eq_true (by first | (with_reducible assumption) | assumption)
                                          obtain ⟨ad117, e117, hx117_0, hx117_1⟩ := at_T54 HR0.out (ji29) p117 q117
                                          cases e117
                                          replace hx117_0 := (HB.out.cell (World.block_lt_of_cell? w _ hx117_0)).trans hx117_0
                                          replace hx117_1 := (HB.out.cell (World.block_lt_of_cell? w _ hx117_1)).trans hx117_1
                                          replace p117 := eq_true p117
                                          replace q117 := eq_true q117
                                          go_wp2_with (first | (go_at_call 35; (with_reducible refine (whiskref14_is.calls ((rd_T54 l0 (ji29)).f0) ((rd_T54 l0 (ji29)).f1) 45 false _ A32.out).mono ?_); rintro e w48 ⟨rfl, hb⟩; have n0_ := Aside0.mk (below_step (by repeat (first | (with_reducible first | exact HB.out | apply below_alloc | apply pw_below_drewN | apply below_drew1) | exact HB.out)) hb); clear HB; have HB := n0_; clear n0_; (try clear hb); (try clear hb2); (try clear hk); (try clear hi); have p121 : 0 ≤ (x10_5 : Int) := of_decide_eq_true (by first | (with_reducible assumption) | assumption); have q121 : x10_5 < (l0.length : Int) := of_decide_eq_true (by first | (with_reducible assumption) | assumption); obtain ⟨ad121, e121, hx121_0, hx121_1⟩ := at_T54 HR0.out x10_5 p121 q121; obtain rfl : ad117 = ad121 := (by injection e121); replace hx121_0 := (HB.out.cell (World.block_lt_of_cell? w _ hx121_0)).trans hx121_0; replace hx121_1 := (HB.out.cell (World.block_lt_of_cell? w _ hx121_1)).trans hx121_1; replace p121 := eq_true p121; replace q121 := eq_true q121))
                                          go_roundg k5
                                          case measure => have := HJ2.out; have := HJ8.out; have := HJ16.out; have := HJ18.out; have := HK5.out; omega
                                          case rel => exact ⟨((a1 == ((rd_T54 l0 x10_5).f0))), (ji29), (by first | rfl | (simp; done) | (simp [*]; done)), (by first | rfl | (simp; done) | (simp only [← hji29] <;> (first | rfl | simp)) | (simp [*]; done)), H', ⟨by have := HJ2.out; have := HJ8.out; have := HJ16.out; have := HJ18.out; have := HK5.out; omega⟩, ⟨by repeat (first | (with_reducible first | exact HB.out | apply below_alloc | apply pw_below_drewN | apply below_drew1) | exact HB.out)⟩⟩
                                        · rw [if_neg c47] at H
                                          exact absurd H (by simp)
                                      · rw [if_neg c46] at H
                                        exact absurd H (by simp)
                                · rw [if_neg c31] at H
                                  exact absurd H (by simp)
                              · rw [if_neg c30] at H
                                exact absurd H (by simp)
                            · rw [if_neg c28] at H
                              have c28b0 : decide ((wrap64 (x10_5 + 2)) < x8_18) = false := decide_eq_false c28
                              clear c28
                              by_cases c49 : x9_5 = true
                              · subst c49
                                have H1 : (whiskref14_set.l1 k5 l0 a1 x7_8 x8_18 true (wrap64 (x10_5 + 1))) = some (r1, r2) := by rw [if_pos rfl] at H; exact H
                                clear H
                                have H := H1
                                clear H1
                                have H' := Aside0.mk H
                                clear H
                                go_wp2
                                go_roundg k5
                                case measure => have := HJ2.out; have := HJ8.out; have := HJ16.out; have := HJ18.out; have := HK5.out; omega
                                case rel => exact ⟨(true), (wrap64 (x10_5 + 1)), (by first | rfl | (simp; done) | (simp [*]; done)), (by first | rfl | (simp; done) | (simp [*]; done)), H', ⟨by have := HJ2.out; have := HJ8.out; have := HJ16.out; have := HJ18.out; have := HK5.out; omega⟩, ⟨by repeat (first | (with_reducible first | exact HB.out | apply below_alloc | apply pw_below_drewN | apply below_drew1) | exact HB.out)⟩⟩
                              · replace c49 := Bool.eq_false_iff.mpr c49
                                subst c49
                                have H1 : (if 0 ≤ x10_5 then (if x10_5 < (l0.length : Int) then (whiskref14_set.l1 k5 l0 a1 x7_8 x8_18 (a1 == ((rd_T54 l0 x10_5).f0)) (wrap64 (x10_5 + 1))) else (none)) else (none)) = some (r1, r2) := by rw [if_neg (show ¬ (false = true) by decide)] at H; exact H
                                clear H
                                have H := H1
                                clear H1
                                by_cases c50 : 0 ≤ x10_5
                                · rw [if_pos c50] at H
                                  have c50b0 : decide (0 ≤ x10_5) = true := decide_eq_true c50
                                  clear c50
                                  by_cases c51 : x10_5 < (l0.length : Int)
                                  · rw [if_pos c51] at H
                                    have c51b0 : decide (x10_5 < (l0.length : Int)) = true := decide_eq_true c51
                                    clear c51
                                    have H' := Aside0.mk H
                                    clear H
                                    have p122 : 0 ≤ (x10_5 : Int) := of_decide_eq_true (by first | (with_reducible assumption) | assumption)
                                    have q122 : x10_5 < (l0.length : Int) := of_decide_eq_true (by first | (with_reducible assumption) | assumption)
                                    obtain ⟨ad122, e122, hx122_0, hx122_1⟩ := at_T54 HR0.out x10_5 p122 q122
                                    cases e122
                                    replace hx122_0 := (HB.out.cell (World.block_lt_of_cell? w _ hx122_0)).trans hx122_0
                                    replace hx122_1 := (HB.out.cell (World.block_lt_of_cell? w _ hx122_1)).trans hx122_1
                                    replace p122 := eq_true p122
                                    replace q122 := eq_true q122
                                    go_wp2
                                    go_roundg k5
                                    case measure => have := HJ2.out; have := HJ8.out; have := HJ16.out; have := HJ18.out; have := HK5.out; omega
                                    case rel => exact ⟨((a1 == ((rd_T54 l0 x10_5).f0))), (wrap64 (x10_5 + 1)), (by first | rfl | (simp; done) | (simp [*]; done)), (by first | rfl | (simp; done) | (simp [*]; done)), H', ⟨by have := HJ2.out; have := HJ8.out; have := HJ16.out; have := HJ18.out; have := HK5.out; omega⟩, ⟨by repeat (first | (with_reducible first | exact HB.out | apply below_alloc | apply pw_below_drewN | apply below_drew1) | exact HB.out)⟩⟩
                                  · rw [if_neg c51] at H
                                    exact absurd H (by simp)
                                · rw [if_neg c50] at H
                                  exact absurd H (by simp)
                          · rw [if_neg c27] at H
                            have c27b0 : decide (x10_5 < x8_18) = false := decide_eq_false c27
                            clear c27
                            simp only [Option.some.injEq, Prod.mk.injEq] at H
                            obtain ⟨rfl, rfl⟩ := H
                            go_wp2
                            go_ret2
                            exact ⟨by first | rfl | (simp [errW_none, errW_some] <;> rfl) | (simp [*, errW_none, errW_some] <;> rfl), by repeat (first | (with_reducible first | exact HB.out | apply below_alloc | apply pw_below_drewN | apply below_drew1) | exact HB.out)⟩

end Go.Proofs.Ythbnnlhkcaomlaa.PGlobMatches
