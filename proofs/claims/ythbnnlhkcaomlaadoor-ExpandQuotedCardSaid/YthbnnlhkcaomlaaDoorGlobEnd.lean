/- The walk of slices.IndexFunc at the characters, asked for the first unquoted ']'; and of what asks it. -/
import Derived.Test.YthbnnlhkcaomlaaDoorGlobIs
import Derived.Test.YthbnnlhkcaomlaaDoorWWords
namespace Go.Proofs.YthbnnlhkcaomlaaDoor.Gl
open Go.RowKit Go.Proofs.YthbnnlhkcaomlaaDoorW.PrintWords

def ChR (c : Ch) (cs : List Value) : Prop := cs = [.int .u8 (c.1.toNat : Int), .bool c.2]

abbrev ReadsCh (w : World) (A : Option Addr) (l : List Ch) : Prop := ReadsRow ChR 2 w A l.length l

theorem ReadsCh.at_ {w : World} {A : Option Addr} {l : List Ch} (h : ReadsCh w A l) {i : Nat} {c : Ch} (hi : l[i]? = some c) :
    ∃ ad, A = some ad ∧ w.cell? (ad.add (i * 2)) = some (.int .u8 (c.1.toNat : Int)) ∧ w.cell? ⟨(ad.add (i * 2)).block, (ad.add (i * 2)).off + 1, none⟩ = some (.bool c.2) := by
  have hlt : i < l.length := (List.getElem?_eq_some_iff.1 hi).1
  obtain ⟨ad, e, hc⟩ := h.2.2 (by omega)
  obtain ⟨cs, _, hr, hcell⟩ := hc i c hi
  unfold ChR at hr
  subst hr
  refine ⟨ad, e, hcell 0 _ rfl, ?_⟩
  rw [← add_field ad (i * 2) 1 (by omega)]
  exact hcell 1 _ rfl

theorem ReadsCh.below {w w1 : World} {A : Option Addr} {l : List Ch} (h : ReadsCh w A l) (hb : Below w.heap.size w w1) : ReadsCh w1 A l := ReadsRow.imp_ h hb fun _ _ h => h

set_option maxHeartbeats 400000 in
theorem close_walk (c : Ch) (w : World) :
    Calls Tryd.prog 73 #[.agg #[.int .u8 (c.1.toNat : Int), .bool c.2]] w fun e w' => e = .returned (.bool (isC c 93)) ∧ Below w.heap.size w w' := by
  go_enter Tryd.func73, Tryd.ntmps73
  go_wp2_with (go_at_call 61; refine (is_walk c _ _).mono ?_; rintro e w' ⟨rfl, hb⟩)
  go_ret
  exact ⟨ret_bool (isL_one c 93), ((Below.refl _ _).alloc (Nat.le_refl _) _).trans (hb.mono (by simp))⟩

theorem ret_int {k : IntKind} {a b : Int} (h : a = b) : Ending.returned (.int k a) = .returned (.int k b) := by rw [h]

def endI (l : List Ch) : Int := match findEnd l with
  | some k => (k : Int)
  | none => -1

/-- Which is the first one from k on? -/
theorem endI_at {l : List Ch} {k : Nat} (h : ∀ j c, j < k → l[j]? = some c → isC c 93 = false) {c : Ch} (hk : l[k]? = some c) (hc : isC c 93 = true) : endI l = k := by
  have key : findEnd l = some k := by
    induction l generalizing k with
    | nil => simp at hk
    | cons x l ih =>
      unfold findEnd
      cases k with
      | zero => simp at hk; subst hk; rw [if_pos hc]
      | succ k =>
        rw [if_neg (by rw [h 0 x (by omega) rfl]; decide), ih (fun (j : Nat) c (hj : j < k) hjc => h (j + 1) c (by omega) (by simpa using hjc)) (by simpa using hk)]
        rfl
  simp [endI, key]
theorem endI_none {l : List Ch} (h : ∀ (j : Nat) c, l[j]? = some c → isC c 93 = false) : endI l = -1 := by
  have key : findEnd l = none := by
    induction l with
    | nil => rfl
    | cons x l ih =>
      unfold findEnd
      rw [if_neg (by rw [h 0 x rfl]; decide), ih (fun (j : Nat) c hjc => h (j + 1) c (by simpa using hjc))]
      rfl
  simp [endI, key]

set_option maxHeartbeats 800000 in
theorem end_walk (l : List Ch) (A : Option Addr) (cap : Nat) (w : World) (hr : ReadsCh w A l) :
    Calls Tryd.prog 72 #[.slice A l.length cap, .func (.func 73) #[] #[]] w fun e w' => e = .returned (.int .i64 (endI l)) ∧ Below w.heap.size w w' := by
  have hm := hr.2.1
  go_enter Tryd.func72, Tryd.ntmps72
  go_wp2
  go_loopw [8] (fun i wr => ∃ k : Nat, k ≤ l.length ∧ i = .int .i64 k ∧ Hid (∀ j c, j < k → l[j]? = some c → isC c 93 = false) ∧ Below w.heap.size w wr) (fun i _ => l.length - (intOf i).toNat)
  case atStart => exact ⟨0, Nat.zero_le _, rfl, fun j c h => absurd h (by omega), Below.refl _ _⟩
  case round =>
    obtain ⟨k, hk, rfl, hno, hb⟩ := hrel
    by_cases hlt : k < l.length
    · obtain ⟨ad, rfl, h1, h2⟩ := (ReadsCh.below hr hb).at_ (List.getElem?_eq_getElem hlt)
      have H3 := Lib.hid (show l[k]? = some l[k] from List.getElem?_eq_getElem hlt)
      generalize l[k] = c at *
      cases hc : isC c 93 with
      | true =>
        have HC := Lib.hid hc
        clear hc
        go_wp2_with (go_at_call 73; refine (close_walk c _).mono ?_; rintro e w' ⟨rfl, hb'⟩; rw [HC.out])
        go_ret
        exact ⟨ret_int (endI_at hno.out H3.out HC.out).symm, hb.trans (hb'.mono hb.size)⟩
      | false =>
        have HC := Lib.hid hc
        clear hc
        go_wp2_with (go_at_call 73; refine (close_walk c _).mono ?_; rintro e w' ⟨rfl, hb'⟩; rw [HC.out])
        go_roundw
        case rel =>
          refine ⟨k + 1, by omega, by go_num, fun j c' hj hjc => ?_, hb.trans (hb'.mono hb.size)⟩
          by_cases hjk : j < k
          · exact hno.out j c' hjk hjc
          · have e : j = k := by omega
            subst e
            rw [H3.out] at hjc
            injection hjc with hjc
            rw [← hjc]; exact HC.out
        case measure => simp [intOf]; omega
    · go_wp2
      go_ret
      refine ⟨ret_int (endI_none fun j c' hjc => hno.out j c' ?_ hjc).symm, hb⟩
      have := (List.getElem?_eq_some_iff.1 hjc).1
      omega
end Go.Proofs.YthbnnlhkcaomlaaDoor.Gl
