/- The walk of the function that a set is: which bytes it tells. -/
import Derived.Test.YthbnnlhkcaomlaaDoorGlobEnd
namespace Go.Proofs.YthbnnlhkcaomlaaDoor.Gl
open Go.RowKit Go.Proofs.YthbnnlhkcaomlaaDoorW.PrintWords

theorem inBody_one {b : UInt8} {l : List Ch} {k : Nat} {x : Ch} (hx : l[k]? = some x) (hno : ∀ d, k + 2 < l.length → l[k + 1]? = some d → isC d 45 = false) :
    inBody b (l.drop k) = (b == x.1 || inBody b (l.drop (k + 1))) := by
  rw [drop_cons hx]
  cases h1 : l.drop (k + 1) with
  | nil => simp [inBody]
  | cons d r =>
    have hd : l[k + 1]? = some d := by
      have := congrArg (fun z => z[0]?) h1
      simpa [List.getElem?_drop] using this
    cases r with
    | nil => simp [inBody]
    | cons y r =>
      have hl := congrArg List.length h1
      simp only [List.length_drop, List.length_cons] at hl
      rw [inBody, hno d (by omega) hd]
      simp

theorem inBody_three {b : UInt8} {l : List Ch} {k : Nat} {x d y : Ch} (hx : l[k]? = some x) (hd : l[k + 1]? = some d) (hy : l[k + 2]? = some y) (hdash : isC d 45 = true) :
    inBody b (l.drop k) = ((decide (x.1 ≤ b) && decide (b ≤ y.1)) || inBody b (l.drop (k + 3))) := by
  rw [drop_cons hx, drop_cons hd, drop_cons hy, inBody, if_pos hdash]

theorem u8_le (a b : UInt8) : decide (a ≤ b) = decide (a.toNat ≤ b.toNat) := by
  simp only [UInt8.le_iff_toNat_le]
theorem u8_eq (a b : UInt8) : (a == b) = ((a.toNat : Int) == (b.toNat : Int)) := by
  rw [Bool.eq_iff_iff, beq_iff_eq, beq_iff_eq, ← UInt8.toNat_inj]; omega

theorem ret_bool_ne {a b c d : Bool} (h : a = c) (h' : b = d) : Ending.returned (.bool (a != b)) = .returned (.bool (c != d)) := by rw [h, h']

set_option maxHeartbeats 1600000 in
theorem set_walk (b : UInt8) (l : List Ch) (neg : Bool) (A : Option Addr) (cap B1 B2 : Nat) (w : World) (hl : l.length ≤ 1099511627776) (hr : ReadsCh w A l) (h1 : w.heap[B1]? = some (.cells #[.slice A l.length cap] 116 (0, 0)))
    (h2 : w.heap[B2]? = some (.cells #[.bool neg] 4 (0, 0))) :
    Calls Tryd.prog 74 #[.int .u8 (b.toNat : Int), .pointer (some ⟨B1, 0, none⟩), .pointer (some ⟨B2, 0, none⟩)] w fun e w' => e = .returned (.bool (inBody b l != neg)) ∧ Below w.heap.size w w' := by
  have c1 := cell_of_one h1
  have c2 := cell_of_one h2
  have l1 := lt_of_block h1
  have l2 := lt_of_block h2
  go_enter Tryd.func74, Tryd.ntmps74
  go_wp2
  go_loopw [5, 6] (fun s i wr => ∃ (k : Nat) (sm : Bool), k ≤ l.length ∧ i = .int .i64 k ∧ s = .bool sm ∧ Hid ((sm || inBody b (l.drop k)) = inBody b l) ∧ Below w.heap.size w wr) (fun _ i _ => l.length - (intOf i).toNat)
  case atStart => exact ⟨0, false, Nat.zero_le _, rfl, rfl, by simp [Hid], Below.refl _ _⟩
  case round =>
    obtain ⟨k, sm, hk, rfl, rfl, hsm, hb⟩ := hrel
    have c1r : wr.cell? ⟨B1, 0, none⟩ = some (.slice A l.length cap) := (hb.cell (p := ⟨B1, 0, none⟩) l1).trans c1
    have c2r : wr.cell? ⟨B2, 0, none⟩ = some (.bool neg) := (hb.cell (p := ⟨B2, 0, none⟩) l2).trans c2
    by_cases hlt : k < l.length
    · obtain ⟨x, hx⟩ : ∃ x, l[k]? = some x := ⟨_, List.getElem?_eq_getElem hlt⟩
      obtain ⟨ad, rfl, hx1, hx2⟩ := (ReadsCh.below hr hb).at_ hx
      have HX := Lib.hid hx
      clear hx
      by_cases h3 : k + 2 < l.length
      · obtain ⟨d, hd⟩ : ∃ d, l[k + 1]? = some d := ⟨_, List.getElem?_eq_getElem (by omega)⟩
        obtain ⟨y, hy⟩ : ∃ y, l[k + 2]? = some y := ⟨_, List.getElem?_eq_getElem (by omega)⟩
        obtain ⟨_, e1, hd1, hd2⟩ := (ReadsCh.below hr hb).at_ hd
        obtain rfl := Option.some.inj e1
        obtain ⟨_, e2, hy1, hy2⟩ := (ReadsCh.below hr hb).at_ hy
        obtain rfl := Option.some.inj e2
        clear e1 e2
        have HD := Lib.hid hd
        have HY := Lib.hid hy
        clear hd hy
        cases hc : isC d 45 with
        | true =>
          have HC := Lib.hid hc
          have hst := inBody_three (b := b) HX.out HD.out HY.out hc
          rw [u8_le, u8_le] at hst
          have HST := Lib.hid hst
          clear hc hst
          cases sm with
          | true =>
            go_wp2_with (go_at_call 61; refine (is_walk d _ _).mono ?_; rintro e w' ⟨rfl, hb'⟩; rw [isL_one, HC.out]; have c1' := pw_cell_below hb' c1r; have x1' := pw_cell_below hb' hx1; have x2' := pw_cell_below hb' hx2; have y1' := pw_cell_below hb' hy1; have y2' := pw_cell_below hb' hy2)
            go_roundw
            case rel =>
              refine ⟨k + 3, true, by omega, by go_num, rfl, ?_, hb.trans (hb'.mono hb.size)⟩
              have hs := hsm.out
              simpa [Hid] using hs
            case measure => simp [intOf]; omega
          | false =>
            by_cases ha : (x.1.toNat : Int) ≤ (b.toNat : Int)
            · go_wp2_with (go_at_call 61; refine (is_walk d _ _).mono ?_; rintro e w' ⟨rfl, hb'⟩; rw [isL_one, HC.out]; have c1' := pw_cell_below hb' c1r; have x1' := pw_cell_below hb' hx1; have x2' := pw_cell_below hb' hx2; have y1' := pw_cell_below hb' hy1; have y2' := pw_cell_below hb' hy2)
              go_roundw
              case rel =>
                refine ⟨k + 3, decide (b.toNat ≤ y.1.toNat), by omega, by go_num, rfl, ?_, hb.trans (hb'.mono hb.size)⟩
                have hs := hsm.out
                rw [HST.out, decide_eq_true (by omega : x.1.toNat ≤ b.toNat)] at hs
                simpa [Hid] using hs
              case measure => simp [intOf]; omega
            · go_wp2_with (go_at_call 61; refine (is_walk d _ _).mono ?_; rintro e w' ⟨rfl, hb'⟩; rw [isL_one, HC.out]; have c1' := pw_cell_below hb' c1r; have x1' := pw_cell_below hb' hx1; have x2' := pw_cell_below hb' hx2; have y1' := pw_cell_below hb' hy1; have y2' := pw_cell_below hb' hy2)
              go_roundw
              case rel =>
                refine ⟨k + 3, false, by omega, by go_num, rfl, ?_, hb.trans (hb'.mono hb.size)⟩
                have hs := hsm.out
                rw [HST.out, decide_eq_false (by omega : ¬ x.1.toNat ≤ b.toNat)] at hs
                simpa [Hid] using hs
              case measure => simp [intOf]; omega
        | false =>
          have HC := Lib.hid hc
          have hst := inBody_one (b := b) HX.out (fun d' _ hd' => by rw [HD.out] at hd'; injection hd' with hd'; rw [← hd']; exact hc)
          rw [u8_eq] at hst
          have HST := Lib.hid hst
          clear hc hst
          cases sm with
          | true =>
            go_wp2_with (go_at_call 61; refine (is_walk d _ _).mono ?_; rintro e w' ⟨rfl, hb'⟩; rw [isL_one, HC.out]; have c1' := pw_cell_below hb' c1r; have x1' := pw_cell_below hb' hx1; have x2' := pw_cell_below hb' hx2; have y1' := pw_cell_below hb' hy1; have y2' := pw_cell_below hb' hy2)
            go_roundw
            case rel =>
              refine ⟨k + 1, true, by omega, by go_num, rfl, ?_, hb.trans (hb'.mono hb.size)⟩
              have hs := hsm.out
              simpa [Hid] using hs
            case measure => simp [intOf]; omega
          | false =>
            go_wp2_with (go_at_call 61; refine (is_walk d _ _).mono ?_; rintro e w' ⟨rfl, hb'⟩; rw [isL_one, HC.out]; have c1' := pw_cell_below hb' c1r; have x1' := pw_cell_below hb' hx1; have x2' := pw_cell_below hb' hx2; have y1' := pw_cell_below hb' hy1; have y2' := pw_cell_below hb' hy2)
            go_roundw
            case rel =>
              refine ⟨k + 1, ((b.toNat : Int) == (x.1.toNat : Int)), by omega, by go_num, rfl, ?_, hb.trans (hb'.mono hb.size)⟩
              have hs := hsm.out
              rw [HST.out] at hs
              simpa [Hid] using hs
            case measure => simp [intOf]; omega
      · have hst := inBody_one (b := b) HX.out (fun d' hd' => absurd hd' h3)
        have h3' : decide ((k : Int) + 2 < (l.length : Int)) = false := decide_eq_false (by omega)
        rw [u8_eq] at hst
        have HST := Lib.hid hst
        clear hst
        cases sm with
        | true =>
          go_wp2
          go_roundw
          case rel =>
            refine ⟨k + 1, true, by omega, by go_num, rfl, ?_, hb⟩
            have hs := hsm.out
            simpa [Hid] using hs
          case measure => simp [intOf]; omega
        | false =>
          go_wp2
          go_roundw
          case rel =>
            refine ⟨k + 1, ((b.toNat : Int) == (x.1.toNat : Int)), by omega, by go_num, rfl, ?_, hb⟩
            have hs := hsm.out
            rw [HST.out] at hs
            simpa [Hid] using hs
          case measure => simp [intOf]; omega
    · go_wp2
      go_ret
      have e : k = l.length := by omega
      subst e
      have hs := hsm.out
      rw [List.drop_eq_nil_of_le (Nat.le_refl _)] at hs
      exact ⟨ret_bool_ne (by simpa [inBody] using hs) rfl, hb⟩
end Go.Proofs.YthbnnlhkcaomlaaDoor.Gl
