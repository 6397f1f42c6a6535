/- The walk of ExpandTrims (printed by wip/gen-trims.py). -/
import Derived.Test.YthbnnlhkcaomlaaDoorExTrimsW
import Derived.Deep.DeepCutAuto
namespace Go.Proofs.YthbnnlhkcaomlaaDoor.Ex
open Go.RowKit Go.Shelf Go.Proofs.YthbnnlhkcaomlaaDoorW.PrintWords Go.Proofs.YthbnnlhkcaomlaaDoor.Gl

theorem one_var {w : World} {N : Nat} {a b : B} (h : w.heap[N]? = some (.cells #[.string a, .string b] 44 (0, 0))) : kVar.C w (some ⟨N, 0, none⟩) 1 [(a, b)] :=
  row_C kVar (cs := [.string a, .string b]) h (by simp) (fun j p hj => by
    match j, hj with
    | 0, hj =>
      cases hj
      refine ⟨_, rfl, (show kVar.K w (a, b) [.string a, .string b] from ⟨[.string a], [.string b], rfl, rfl, rfl⟩), fun i u hu => ?_⟩
      match i, hu with
      | 0, hu => exact hu
      | 1, hu => exact hu)
theorem row_1 {d : Nat} {w : World} {N : Nat} {a0 a1 a2 a3 a4 a5 : Value} {p : PartT} (h : w.heap[N]? = some (.cells #[a0, a1, a2, a3, a4, a5] 47 (0, 0))) (hp : PartAt d (fun _ => True) w p [a0, a1, a2, a3, a4, a5]) : WordAt d (fun _ => True) w (some ⟨N, 0, none⟩) 1 [p] :=
  word_row (ps := [p]) (rows := [[a0, a1, a2, a3, a4, a5]]) h trivial (by show (1 : Nat) ≤ 1000; omega) rfl rfl (fun j q qs h1 h2 => by
    match j, h1, h2 with
    | 0, h1, h2 => cases h1; cases h2; exact ⟨rfl, hp⟩)
theorem row_2 {d : Nat} {w : World} {N : Nat} {a0 a1 a2 a3 a4 a5 b0 b1 b2 b3 b4 b5 : Value} {p q : PartT} (h : w.heap[N]? = some (.cells #[a0, a1, a2, a3, a4, a5, b0, b1, b2, b3, b4, b5] 47 (0, 0))) (hp : PartAt d (fun _ => True) w p [a0, a1, a2, a3, a4, a5]) (hq : PartAt d (fun _ => True) w q [b0, b1, b2, b3, b4, b5]) : WordAt d (fun _ => True) w (some ⟨N, 0, none⟩) 2 [p, q] :=
  word_row (ps := [p, q]) (rows := [[a0, a1, a2, a3, a4, a5], [b0, b1, b2, b3, b4, b5]]) h trivial (by show (2 : Nat) ≤ 1000; omega) rfl rfl (fun j q qs h1 h2 => by
    match j, h1, h2 with
    | 0, h1, h2 => cases h1; cases h2; exact ⟨rfl, hp⟩
    | 1, h1, h2 => cases h1; cases h2; exact ⟨rfl, hq⟩)
/-- The variables' box, its row, the table. -/
def TrimsAt (w : World) (v : B) (NL NB : Nat) : Prop := TabOk w ∧ VarsAt w (.slice (some ⟨NL, 0, none⟩) 1 1) none 0 (vL v) [] ∧ w.heap[NB]? = some (.cells #[.slice (some ⟨NL, 0, none⟩) 1 1, .slice none 0 0, .int .i64 0] 26 (0, 0))
theorem TrimsAt.below {w w' : World} {v : B} {NL NB : Nat} (h : TrimsAt w v NL NB) (hb : Below w.heap.size w w') : TrimsAt w' v NL NB := ⟨tab_below h.1 hb, h.2.1.below hb, below_obj hb h.2.2⟩
theorem beq_str {a b : B} : (a.toList == b.toList) = decide (a = b) := by
  by_cases h : a = b
  · subst h; simp
  · have := str_ne h
    rw [decide_eq_false h]
    simpa using this

theorem tc_star {op R v : B} {NL NB : Nat} {wc : World} (hx : TrimsAt wc v NL NB) (h : expandP 20 1 [vPart op wStar] (vE v) = some ([[⟨R, true, false⟩]], 0, vE1 v)) (W : World) (N : Nat) (hb : Below wc.heap.size wc W) (hr : W.heap[N]? = some (.cells #[.int .i64 0, .string ⟨#[42]⟩, .string ⟨#[]⟩, .bool false, .slice none 0 0, .pointer none] 47 (0, 0))) :
    Calls Tryd.prog 15 #[.string op, .slice (some ⟨N, 0, none⟩) 1 1, .pointer (some ⟨NB, 0, none⟩)] W fun en w' => en = .returned (.string R) ∧ Below W.heap.size W w' := by
  have hA := hx.below hb
  exact trimc_w (d := 1) op wStar v R NL NB _ 1 1 W hA.1 hA.2.1 hA.2.2 (row_1 hr (leaf_at 0 _ _ _ _ _ _)) (Nat.le_refl _) h
theorem tc_quo {op R v t : B} {NL NB : Nat} {wc : World} (hx : TrimsAt wc v NL NB) (h : expandP 20 1 [vPart op (wQuo t)] (vE v) = some ([[⟨R, true, false⟩]], 0, vE1 v)) (W : World) (N : Nat) (hb : Below wc.heap.size wc W) (hr : W.heap[N]? = some (.cells #[.int .i64 1, .string t, .string ⟨#[]⟩, .bool true, .slice none 0 0, .pointer none] 47 (0, 0))) :
    Calls Tryd.prog 15 #[.string op, .slice (some ⟨N, 0, none⟩) 1 1, .pointer (some ⟨NB, 0, none⟩)] W fun en w' => en = .returned (.string R) ∧ Below W.heap.size W w' := by
  have hA := hx.below hb
  exact trimc_w (d := 1) op (wQuo t) v R NL NB _ 1 1 W hA.1 hA.2.1 hA.2.2 (row_1 hr (leaf_at 0 _ _ _ _ _ _)) (Nat.le_refl _) h
theorem tc_both {op R v t : B} {NL NB : Nat} {wc : World} (hx : TrimsAt wc v NL NB) (h : expandP 20 1 [vPart op (wBoth t)] (vE v) = some ([[⟨R, true, false⟩]], 0, vE1 v)) (W : World) (N : Nat) (hb : Below wc.heap.size wc W) (hr : W.heap[N]? = some (.cells #[.int .i64 0, .string ⟨#[42]⟩, .string ⟨#[]⟩, .bool false, .slice none 0 0, .pointer none, .int .i64 1, .string t, .string ⟨#[]⟩, .bool true, .slice none 0 0, .pointer none] 47 (0, 0))) :
    Calls Tryd.prog 15 #[.string op, .slice (some ⟨N, 0, none⟩) 2 2, .pointer (some ⟨NB, 0, none⟩)] W fun en w' => en = .returned (.string R) ∧ Below W.heap.size W w' := by
  have hA := hx.below hb
  exact trimc_w (d := 1) op (wBoth t) v R NL NB _ 2 2 W hA.1 hA.2.1 hA.2.2 (row_2 hr (leaf_at 0 _ _ _ _ _ _) (leaf_at 0 _ _ _ _ _ _)) (Nat.le_refl _) h

set_option maxHeartbeats 12800000 in
set_option maxRecDepth 100000 in
theorem trims_try (value text : B) (w : World) (hT : TabOk w) : Calls Tryd.prog 5 #[.string value, .string text] w fun en w' => en = .returned (.bool true) ∧ Below w.heap.size w w' := by
  have HT := Lib.hid hT
  clear hT
  go_enter Tryd.func5, Tryd.ntmps5
  go_upto_region 3 with fail
  generalize hv : ByteArray.extract value 0 (min (value.size : Int) 60).toNat = v
  generalize ht : ByteArray.extract text 0 (min (text.size : Int) 20).toNat = t
  have hvs : v.size ≤ 60 := by rw [← hv, ByteArray.size_extract]; omega
  have hts : t.size ≤ 20 := by rw [← ht, ByteArray.size_extract]; omega
  clear hv ht
  go_upto_region 6 with fail
  generalize hW : World.alloc _ _ = w1
  have HX : Hid (TrimsAt w1 v w.heap.size (w.heap.size + 1) ∧ Below w.heap.size w w1) := Lib.hid (by
    subst hW
    have h2 := two_new w (.cells #[.string ⟨#[118]⟩, .string v] 44) (.cells #[.slice (some ⟨w.heap.size, 0, none⟩) 1 1, .slice none 0 0, .int .i64 0] 26)
    have hb := below_aa w (.cells #[.string ⟨#[118]⟩, .string v] 44) (.cells #[.slice (some ⟨w.heap.size, 0, none⟩) 1 1, .slice none 0 0, .int .i64 0] 26)
    exact ⟨⟨tab_below HT.out hb, ⟨.inr ⟨_, rfl, one_var h2.1, ⟨_, _, h2.1⟩⟩, ⟨rfl, by decide, fun h => absurd h (Nat.lt_irrefl _)⟩, Nat.le_refl _, (fun _ e => by cases e), by decide⟩, h2.2⟩, hb⟩)
  clear hW HT
  obtain ⟨k, hk⟩ : ∃ k, k = v.size - t.size := ⟨_, rfl⟩
  go_cut [43] (fun s43 wx => s43 = .bool (decide (t.size ≤ v.size ∧ v.extract 0 t.size = t)) ∧ wx = w1)
  case first =>
    by_cases h1 : t.size ≤ v.size
    · have a1 : (t.size : Int) ≤ (v.size : Int) := by omega
      go_wp2
      go_meet
      case rel => exact ⟨by simp [beq_str, h1], rfl⟩
    · have a1 : ¬ (t.size : Int) ≤ (v.size : Int) := by omega
      go_wp2
      go_meet
      case rel => exact ⟨by simp [h1], rfl⟩
  case rest =>
    obtain ⟨rfl, rfl⟩ := hcut
    go_upto_if 43 with fail
    go_cut [7] (fun s7 wx => s7 = .string (wantP v t) ∧ wx = wc)
    case first =>
      by_cases h1 : t.size ≤ v.size ∧ v.extract 0 t.size = t
      · have a1 : (t.size : Int) ≤ (v.size : Int) := by omega
        have a2 : decide (t.size ≤ v.size ∧ v.extract 0 t.size = t) = true := decide_eq_true h1
        rw [a2]
        go_wp2
        go_meet
        case rel => exact ⟨by unfold wantP; rw [if_pos h1], rfl⟩
      · have a2 : decide (t.size ≤ v.size ∧ v.extract 0 t.size = t) = false := decide_eq_false h1
        rw [a2]
        go_wp2
        go_meet
        case rel => exact ⟨by unfold wantP; rw [if_neg h1], rfl⟩
    case rest =>
      obtain ⟨rfl, rfl⟩ := hcut
      go_upto_region 8 with fail
      go_cut [63] (fun s63 wx => s63 = .bool (decide (t.size ≤ v.size ∧ v.extract (v.size - t.size) v.size = t)) ∧ wx = wc)
      case first =>
        by_cases h1 : t.size ≤ v.size
        · have a1 : (t.size : Int) ≤ (v.size : Int) := by omega
          have a2 : IntKind.i64.wrap ((v.size : Int) - (t.size : Int)) = (k : Int) := by rw [IntWalk.i64_in _ (by omega)]; omega
          have a3 : (k : Int) ≤ (v.size : Int) := by omega
          go_wp2
          go_meet
          case rel => exact ⟨by simp [beq_str, h1, ← hk], rfl⟩
        · have a1 : ¬ (t.size : Int) ≤ (v.size : Int) := by omega
          go_wp2
          go_meet
          case rel => exact ⟨by simp [h1], rfl⟩
      case rest =>
        obtain ⟨rfl, rfl⟩ := hcut
        go_upto_if 63 with fail
        go_cut [8] (fun s8 wx => s8 = .string (endP v t) ∧ wx = wc)
        case first =>
          by_cases h1 : t.size ≤ v.size ∧ v.extract (v.size - t.size) v.size = t
          · have a1 : (t.size : Int) ≤ (v.size : Int) := by omega
            have a2 : decide (t.size ≤ v.size ∧ v.extract (v.size - t.size) v.size = t) = true := decide_eq_true h1
            have a3 : IntKind.i64.wrap ((v.size : Int) - (t.size : Int)) = (k : Int) := by rw [IntWalk.i64_in _ (by omega)]; omega
            have a4 : (k : Int) ≤ (v.size : Int) := by omega
            rw [a2]
            go_wp2
            go_meet
            case rel => exact ⟨by unfold endP; rw [if_pos h1, ← hk], rfl⟩
          · have a2 : decide (t.size ≤ v.size ∧ v.extract (v.size - t.size) v.size = t) = false := decide_eq_false h1
            rw [a2]
            go_wp2
            go_meet
            case rel => exact ⟨by unfold endP; rw [if_neg h1], rfl⟩
        case rest =>
          obtain ⟨rfl, rfl⟩ := hcut
          have HB : Hid (Below wc.heap.size wc wc) := Lib.hid (Below.refl _ _)
          have F1 : Hid True := Lib.hid trivial
          go_wp2_with (go_at_call 14; clear F1; refine (lit_w _ _).mono ?_; rintro en z1 ⟨rfl, hb⟩; have HB' := Lib.hid (HB.out.trans (hb.mono HB.out.size)); clear HB hb; have HB := HB'; clear HB')
          have HT2 := Lib.hid (tc_star HX.out.1 (tv_1 v (by omega)))
          have F2 : Hid True := Lib.hid trivial
          go_wp2_with (go_at_call 15; clear F2; refine (HT2.out _ _ (HB.out.alloc HB.out.size _) (heap_alloc_new _ _)).mono ?_; rintro en z2 ⟨rfl, hb⟩; have HB' := Lib.hid ((HB.out.alloc HB.out.size _).trans (hb.mono (HB.out.alloc HB.out.size _).size)); clear HB hb HT2; have HB := HB'; clear HB')
          have F3 : Hid True := Lib.hid trivial
          go_wp2_with (go_at_call 14; clear F3; refine (lit_w _ _).mono ?_; rintro en z3 ⟨rfl, hb⟩; have HB' := Lib.hid (HB.out.trans (hb.mono HB.out.size)); clear HB hb; have HB := HB'; clear HB')
          have HT4 := Lib.hid (tc_star HX.out.1 (tv_2 v (by omega)))
          have F4 : Hid True := Lib.hid trivial
          go_wp2_with (go_at_call 15; clear F4; refine (HT4.out _ _ (HB.out.alloc HB.out.size _) (heap_alloc_new _ _)).mono ?_; rintro en z4 ⟨rfl, hb⟩; have HB' := Lib.hid ((HB.out.alloc HB.out.size _).trans (hb.mono (HB.out.alloc HB.out.size _).size)); clear HB hb HT4; have HB := HB'; clear HB')
          have F5 : Hid True := Lib.hid trivial
          go_wp2_with (go_at_call 14; clear F5; refine (lit_w _ _).mono ?_; rintro en z5 ⟨rfl, hb⟩; have HB' := Lib.hid (HB.out.trans (hb.mono HB.out.size)); clear HB hb; have HB := HB'; clear HB')
          have HT6 := Lib.hid (tc_star HX.out.1 (tv_3 v (by omega)))
          have F6 : Hid True := Lib.hid trivial
          go_wp2_with (go_at_call 15; clear F6; refine (HT6.out _ _ (HB.out.alloc HB.out.size _) (heap_alloc_new _ _)).mono ?_; rintro en z6 ⟨rfl, hb⟩; have HB' := Lib.hid ((HB.out.alloc HB.out.size _).trans (hb.mono (HB.out.alloc HB.out.size _).size)); clear HB hb HT6; have HB := HB'; clear HB')
          have F7 : Hid True := Lib.hid trivial
          go_wp2_with (go_at_call 14; clear F7; refine (lit_w _ _).mono ?_; rintro en z7 ⟨rfl, hb⟩; have HB' := Lib.hid (HB.out.trans (hb.mono HB.out.size)); clear HB hb; have HB := HB'; clear HB')
          have HT8 := Lib.hid (tc_star HX.out.1 (tv_4 v (by omega)))
          have F8 : Hid True := Lib.hid trivial
          go_wp2_with (go_at_call 15; clear F8; refine (HT8.out _ _ (HB.out.alloc HB.out.size _) (heap_alloc_new _ _)).mono ?_; rintro en z8 ⟨rfl, hb⟩; have HB' := Lib.hid ((HB.out.alloc HB.out.size _).trans (hb.mono (HB.out.alloc HB.out.size _).size)); clear HB hb HT8; have HB := HB'; clear HB')
          have F9 : Hid True := Lib.hid trivial
          go_wp2_with (go_at_call 12; clear F9; refine (quo_w t _).mono ?_; rintro en z9 ⟨rfl, hb⟩; have HB' := Lib.hid (HB.out.trans (hb.mono HB.out.size)); clear HB hb; have HB := HB'; clear HB')
          have HT10 := Lib.hid (tc_quo HX.out.1 (tv_5 v t (by omega) (by omega)))
          have F10 : Hid True := Lib.hid trivial
          go_wp2_with (go_at_call 15; clear F10; refine (HT10.out _ _ (HB.out.alloc HB.out.size _) (heap_alloc_new _ _)).mono ?_; rintro en z10 ⟨rfl, hb⟩; have HB' := Lib.hid ((HB.out.alloc HB.out.size _).trans (hb.mono (HB.out.alloc HB.out.size _).size)); clear HB hb HT10; have HB := HB'; clear HB')
          have F11 : Hid True := Lib.hid trivial
          go_wp2_with (go_at_call 12; clear F11; refine (quo_w t _).mono ?_; rintro en z11 ⟨rfl, hb⟩; have HB' := Lib.hid (HB.out.trans (hb.mono HB.out.size)); clear HB hb; have HB := HB'; clear HB')
          have HT12 := Lib.hid (tc_quo HX.out.1 (tv_6 v t (by omega) (by omega)))
          have F12 : Hid True := Lib.hid trivial
          go_wp2_with (go_at_call 15; clear F12; refine (HT12.out _ _ (HB.out.alloc HB.out.size _) (heap_alloc_new _ _)).mono ?_; rintro en z12 ⟨rfl, hb⟩; have HB' := Lib.hid ((HB.out.alloc HB.out.size _).trans (hb.mono (HB.out.alloc HB.out.size _).size)); clear HB hb HT12; have HB := HB'; clear HB')
          have F13 : Hid True := Lib.hid trivial
          go_wp2_with (go_at_call 12; clear F13; refine (quo_w t _).mono ?_; rintro en z13 ⟨rfl, hb⟩; have HB' := Lib.hid (HB.out.trans (hb.mono HB.out.size)); clear HB hb; have HB := HB'; clear HB')
          have HT14 := Lib.hid (tc_quo HX.out.1 (tv_7 v t (by omega) (by omega)))
          have F14 : Hid True := Lib.hid trivial
          go_wp2_with (go_at_call 15; clear F14; refine (HT14.out _ _ (HB.out.alloc HB.out.size _) (heap_alloc_new _ _)).mono ?_; rintro en z14 ⟨rfl, hb⟩; have HB' := Lib.hid ((HB.out.alloc HB.out.size _).trans (hb.mono (HB.out.alloc HB.out.size _).size)); clear HB hb HT14; have HB := HB'; clear HB')
          have F15 : Hid True := Lib.hid trivial
          go_wp2_with (go_at_call 12; clear F15; refine (quo_w t _).mono ?_; rintro en z15 ⟨rfl, hb⟩; have HB' := Lib.hid (HB.out.trans (hb.mono HB.out.size)); clear HB hb; have HB := HB'; clear HB')
          have HT16 := Lib.hid (tc_quo HX.out.1 (tv_8 v t (by omega) (by omega)))
          have F16 : Hid True := Lib.hid trivial
          go_wp2_with (go_at_call 15; clear F16; refine (HT16.out _ _ (HB.out.alloc HB.out.size _) (heap_alloc_new _ _)).mono ?_; rintro en z16 ⟨rfl, hb⟩; have HB' := Lib.hid ((HB.out.alloc HB.out.size _).trans (hb.mono (HB.out.alloc HB.out.size _).size)); clear HB hb HT16; have HB := HB'; clear HB')
          go_wp2
          generalize hzz : z16 = z at HB
          clear hzz
          go_loopw [11, 9, 10] (fun i f l wr => ∃ q : Nat, q ≤ v.size + 1 - t.size ∧ i = .int .i64 q ∧ f = .int .i64 (firstN v t q) ∧ l = .int .i64 (lastN v t q) ∧ wr = z) (fun i _ _ _ => v.size + 1 - t.size - (intOf i).toNat)
          case atStart => exact ⟨0, Nat.zero_le _, rfl, rfl, rfl, rfl⟩
          case round =>
            obtain ⟨q, hq, rfl, rfl, rfl, rfl⟩ := hrel
            have w1' : IntKind.i64.wrap ((q : Int) + (t.size : Int)) = (q : Int) + (t.size : Int) := IntWalk.i64_in _ (by omega)
            by_cases hlt : q < v.size + 1 - t.size
            · have a1 : (q : Int) + (t.size : Int) ≤ (v.size : Int) := by omega
              have a2 : (q : Int) ≤ (q : Int) + (t.size : Int) := by omega
              have a5 : ((q : Int) + (t.size : Int)).toNat = q + t.size := by omega
              have hbq : ((v.extract q (q + t.size)).toList == t.toList) = occ v t q := by rw [beq_str]; rfl
              have hf1 : firstN v t (q + 1) = if firstN v t q < 0 ∧ occ v t q = true then (q : Int) else firstN v t q := rfl
              have hl1 : lastN v t (q + 1) = if occ v t q = true then (q : Int) else lastN v t q := rfl
              generalize hfv : firstN v t q = fv at hf1 ⊢
              generalize hlv : lastN v t q = lv at hl1 ⊢
              cases ho : occ v t q with
              | true =>
                rw [ho] at hbq hf1 hl1
                rw [if_pos rfl] at hl1
                by_cases hf : fv < 0
                · rw [if_pos ⟨hf, rfl⟩] at hf1
                  have HF := Lib.hid (And.intro hf1 hl1)
                  clear hf1 hl1 hfv hlv ho
                  go_wp2
                  go_roundw
                  case rel => exact ⟨q + 1, by omega, by go_num, by rw [HF.out.1], by rw [HF.out.2], (by first | rfl | trivial)⟩
                  case measure => simp [intOf]; omega
                · rw [if_neg (fun h => hf h.1)] at hf1
                  have HF := Lib.hid (And.intro hf1 hl1)
                  clear hf1 hl1 hfv hlv ho
                  go_wp2
                  go_roundw
                  case rel => exact ⟨q + 1, by omega, by go_num, by rw [HF.out.1], by rw [HF.out.2], (by first | rfl | trivial)⟩
                  case measure => simp [intOf]; omega
              | false =>
                rw [ho] at hbq hf1 hl1
                rw [if_neg (by simp)] at hf1 hl1
                have HF := Lib.hid (And.intro hf1 hl1)
                clear hf1 hl1 hfv hlv ho
                go_wp2
                go_roundw
                case rel => exact ⟨q + 1, by omega, by go_num, by rw [HF.out.1], by rw [HF.out.2], (by first | rfl | trivial)⟩
                case measure => simp [intOf]; omega
            · have eq : q = v.size + 1 - t.size := by omega
              have a1 : ¬ (q : Int) + (t.size : Int) ≤ (v.size : Int) := by omega
              have HFS := Lib.hid (first_spec v t q)
              have HLS := Lib.hid (last_spec v t q)
              have HV9 : Hid (expandP 20 1 [vPart oH (wBoth t)] (vE v) = some ([[⟨cutFrom v t (firstN v t q), true, false⟩]], 0, vE1 v)) := Lib.hid (by rw [eq]; exact tv_9 v t (by omega) (by omega))
              have HV10 : Hid (expandP 20 1 [vPart oHH (wBoth t)] (vE v) = some ([[⟨cutFrom v t (lastN v t q), true, false⟩]], 0, vE1 v)) := Lib.hid (by rw [eq]; exact tv_10 v t (by omega) (by omega))
              generalize hfv : firstN v t q = fv at HFS HV9 ⊢
              generalize hlv : lastN v t q = lv at HLS HV10 ⊢
              clear w1' hfv hlv
              go_upto_if 158 with fail
              clear a1
              go_cut [12, 13] (fun s12 s13 wx => s12 = .string (cutFrom v t fv) ∧ s13 = .string (cutFrom v t lv) ∧ Below wr.heap.size wr wx)
              case first =>
                rcases HFS.out with ⟨h1, h2⟩ | ⟨f, h1, h2, h3, h4⟩
                · have hl1 : lv = -1 := by
                    rcases HLS.out with ⟨h5, _⟩ | ⟨g, h5, h6, h7, _⟩
                    · exact h5
                    · rw [h2 g h5] at h7; cases h7
                  subst h1 hl1
                  clear HFS HLS h2
                  go_wp2
                  go_meet
                  case rel => exact ⟨rfl, rfl, Below.refl _ _⟩
                · obtain ⟨g, h5, h6⟩ : ∃ g, g < q ∧ lv = (g : Int) := by
                    rcases HLS.out with ⟨_, h6⟩ | ⟨g, h5, h6, _⟩
                    · rw [h6 f h1] at h3; cases h3
                    · exact ⟨g, h5, h6⟩
                  subst h2 h6
                  have p1 : IntKind.i64.wrap ((f : Int) + (t.size : Int)) = (f : Int) + (t.size : Int) := IntWalk.i64_in _ (by omega)
                  have p2 : IntKind.i64.wrap ((g : Int) + (t.size : Int)) = (g : Int) + (t.size : Int) := IntWalk.i64_in _ (by omega)
                  have p3 : (f : Int) + (t.size : Int) ≤ (v.size : Int) := by omega
                  have p4 : (g : Int) + (t.size : Int) ≤ (v.size : Int) := by omega
                  have p5 : (0 : Int) ≤ (f : Int) + (t.size : Int) := by omega
                  have p6 : (0 : Int) ≤ (g : Int) + (t.size : Int) := by omega
                  have p7 : ((f : Int) + (t.size : Int)).toNat = f + t.size := by omega
                  have p8 : ((g : Int) + (t.size : Int)).toNat = g + t.size := by omega
                  have p9 : (0 : Int) ≤ (f : Int) := by omega
                  clear HFS HLS h3 h4
                  go_wp2
                  go_region_held3 (fun _ => True) (trivial) (fail)
                  go_wp2
                  go_meet
                  case rel => exact ⟨by unfold cutFrom; rw [if_pos (by omega), Int.toNat_natCast], by unfold cutFrom; rw [if_pos (by omega), Int.toNat_natCast], (Below.refl _ _).drew⟩
              case rest =>
                obtain ⟨rfl, rfl, hz⟩ := hcut
                have HBz := Lib.hid (HB.out.trans (hz.mono HB.out.size))
                clear HB hz
                have HB := HBz
                clear HBz
                have F17 : Hid True := Lib.hid trivial
                go_wp2_with (go_at_call 14; clear F17; refine (lit_w _ _).mono ?_; rintro en z17 ⟨rfl, hb⟩; have HB' := Lib.hid (HB.out.trans (hb.mono HB.out.size)); clear HB hb; have HB := HB'; clear HB')
                have F18 : Hid True := Lib.hid trivial
                go_wp2_with (go_at_call 12; clear F18; refine (quo_w t _).mono ?_; rintro en z18 ⟨rfl, hb⟩; have HB' := Lib.hid (HB.out.trans (hb.mono HB.out.size)); clear HB hb; have HB := HB'; clear HB')
                have HT19 := Lib.hid (tc_both HX.out.1 HV9.out)
                have F19 : Hid True := Lib.hid trivial
                go_wp2_with (go_at_call 15; clear F19; refine (HT19.out _ _ (HB.out.alloc HB.out.size _) (heap_alloc_new _ _)).mono ?_; rintro en z19 ⟨rfl, hb⟩; have HB' := Lib.hid ((HB.out.alloc HB.out.size _).trans (hb.mono (HB.out.alloc HB.out.size _).size)); clear HB hb HT19; have HB := HB'; clear HB')
                have F20 : Hid True := Lib.hid trivial
                go_wp2_with (go_at_call 14; clear F20; refine (lit_w _ _).mono ?_; rintro en z20 ⟨rfl, hb⟩; have HB' := Lib.hid (HB.out.trans (hb.mono HB.out.size)); clear HB hb; have HB := HB'; clear HB')
                have F21 : Hid True := Lib.hid trivial
                go_wp2_with (go_at_call 12; clear F21; refine (quo_w t _).mono ?_; rintro en z21 ⟨rfl, hb⟩; have HB' := Lib.hid (HB.out.trans (hb.mono HB.out.size)); clear HB hb; have HB := HB'; clear HB')
                have HT22 := Lib.hid (tc_both HX.out.1 HV10.out)
                have F22 : Hid True := Lib.hid trivial
                go_wp2_with (go_at_call 15; clear F22; refine (HT22.out _ _ (HB.out.alloc HB.out.size _) (heap_alloc_new _ _)).mono ?_; rintro en z22 ⟨rfl, hb⟩; have HB' := Lib.hid ((HB.out.alloc HB.out.size _).trans (hb.mono (HB.out.alloc HB.out.size _).size)); clear HB hb HT22; have HB := HB'; clear HB')
                have HW := Lib.hid (tab_below HX.out.1.1 HB.out)
                go_wp2_with (go_at_call 10; refine (works_w _ HW.out).mono ?_; rintro en zz ⟨rfl, hb⟩; have HB' := Lib.hid (HB.out.trans (hb.mono HB.out.size)); clear HB hb; have HB := HB'; clear HB')
                go_ret
                exact ⟨rfl, HX.out.2.trans (HB.out.mono HX.out.2.size)⟩

end Go.Proofs.YthbnnlhkcaomlaaDoor.Ex
