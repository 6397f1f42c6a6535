/- The walks of glob.Magic and glob.Plain. -/
import Derived.Test.YthbnnlhkcaomlaaGlobMatch
namespace Go.Proofs.Ythbnnlhkcaomlaa.Gl
open Go.RowKit Go.Shelf Go.Proofs.YthbnnlhkcaomlaaW.PrintWords

set_option maxHeartbeats 400000 in
theorem odd_walk (a b : Bool) (v : Value) (hv : v = .nilFunc ∨ ∃ f cs, v = .func f #[] cs) (w : World) :
    Calls Try.prog 33 #[.agg #[.bool a, v, .bool b]] w fun e w' => e = .returned (.bool b) ∧ Below w.heap.size w w' := by
  rcases hv with rfl | ⟨f, cs, rfl⟩
  · go_enter Try.func33, Try.ntmps33
    go_wp2
    go_ret
    exact ⟨rfl, (Below.refl _ _).alloc (Nat.le_refl _) _⟩
  · go_enter Try.func33, Try.ntmps33
    go_wp2
    go_ret
    exact ⟨rfl, (Below.refl _ _).alloc (Nat.le_refl _) _⟩

theorem OneAt.shape {w : World} {p : Piece} {v : Value} (h : OneAt w p v) : v = .nilFunc ∨ ∃ f cs, v = .func f #[] cs := by
  cases p with
  | star => exact .inl h
  | any => exact .inr ⟨_, _, h⟩
  | lit c => obtain ⟨B, q, rfl, _⟩ := h; exact .inr ⟨_, _, rfl⟩
  | set body neg => obtain ⟨A, cap, B1, B2, rfl, _⟩ := h; exact .inr ⟨_, _, rfl⟩

/-- Which is the first special piece? -/
def oddI : List Piece → Int
  | [] => -1
  | p :: l => if p.odd then 0 else if oddI l < 0 then -1 else oddI l + 1
theorem oddI_ge : ∀ l : List Piece, -1 ≤ oddI l
  | [] => by decide
  | p :: l => by have := oddI_ge l; unfold oddI; split <;> try split
                 all_goals omega
theorem oddI_any : ∀ l : List Piece, decide (0 ≤ oddI l) = l.any Piece.odd
  | [] => rfl
  | p :: l => by
    have h := oddI_any l
    have hg := oddI_ge l
    unfold oddI
    cases hp : p.odd with
    | true => simp [hp]
    | false =>
      simp only [Bool.false_eq_true, if_false, List.any_cons, hp, Bool.false_or]
      rw [← h]
      split <;> simp <;> omega
theorem oddI_at {l : List Piece} {k : Nat} (h : ∀ j c, j < k → l[j]? = some c → c.odd = false) {c : Piece} (hk : l[k]? = some c) (hc : c.odd = true) : oddI l = k := by
  induction l generalizing k with
  | nil => simp at hk
  | cons x l ih =>
    cases k with
    | zero => cases (show x = c from by simpa using hk); unfold oddI; rw [if_pos hc]; rfl
    | succ k =>
      have h0 := h 0 x (by omega) rfl
      have := ih (k := k) (fun j c hj hl => h (j + 1) c (by omega) (by simpa using hl)) (by simpa using hk)
      unfold oddI
      rw [if_neg (by rw [h0]; decide), if_neg (by omega), this]; omega
theorem oddI_none {l : List Piece} (h : ∀ (j : Nat) c, l[j]? = some c → c.odd = false) : oddI l = -1 := by
  induction l with
  | nil => rfl
  | cons x l ih =>
    have := ih (fun j c hl => h (j + 1) c (by simpa using hl))
    unfold oddI
    rw [if_neg (by rw [h 0 x rfl]; decide), this]; rfl

set_option maxHeartbeats 1600000 in
theorem oddidx_walk (l : List Piece) (A : Option Addr) (cap : Nat) (w : World) (hr : PcsAt w A l) :
    Calls Try.prog 48 #[.slice A l.length cap, .func (.func 33) #[] #[]] w fun e w' => e = .returned (.int .i64 (oddI l)) ∧ Below w.heap.size w w' := by
  have hm := hr.2.1
  go_enter Try.func48, Try.ntmps48
  go_wp2
  go_loopw [8] (fun i wr => ∃ k : Nat, k ≤ l.length ∧ i = .int .i64 k ∧ Hid (∀ j c, j < k → l[j]? = some c → c.odd = false) ∧ Below w.heap.size w wr) (fun i _ => l.length - (intOf i).toNat)
  case atStart => exact ⟨0, Nat.zero_le _, rfl, fun j c h => absurd h (by omega), Below.refl _ _⟩
  case round =>
    obtain ⟨k, hk, rfl, hno, hb⟩ := hrel
    by_cases hlt : k < l.length
    · obtain ⟨p, hp⟩ : ∃ p, l[k]? = some p := ⟨_, List.getElem?_eq_getElem hlt⟩
      obtain ⟨ad, v, rfl, h1, h2, h3, ho⟩ := (PcsAt.below hr hb).at_ hp
      have H3 := Lib.hid hp
      have hsh := ho.shape
      clear hp ho
      rcases hsh with rfl | ⟨f, cs, rfl⟩
      · cases hc : p.odd with
        | true =>
          have HC := Lib.hid hc
          rw [hc] at h3
          clear hc
          go_wp2_with (go_at_call 33; refine (odd_walk p.isStar true _ (.inl rfl) _).mono ?_; rintro e w' ⟨rfl, hb'⟩)
          go_ret
          exact ⟨ret_int (oddI_at hno.out H3.out HC.out).symm, hb.trans (hb'.mono hb.size)⟩
        | false =>
          have HC := Lib.hid hc
          rw [hc] at h3
          clear hc
          go_wp2_with (go_at_call 33; refine (odd_walk p.isStar false _ (.inl rfl) _).mono ?_; rintro e w' ⟨rfl, hb'⟩)
          go_roundw
          case rel =>
            refine ⟨k + 1, by omega, by go_num, fun j c' hj hjc => ?_, hb.trans (hb'.mono hb.size)⟩
            by_cases hjk : j < k
            · exact hno.out j c' hjk hjc
            · have e : j = k := by omega
              subst e
              rw [H3.out] at hjc
              injection hjc with hjc
              rw [← hjc]; exact HC.out
          case measure => simp [intOf]; omega
      · cases hc : p.odd with
        | true =>
          have HC := Lib.hid hc
          rw [hc] at h3
          clear hc
          go_wp2_with (go_at_call 33; refine (odd_walk p.isStar true _ (.inr ⟨_, _, rfl⟩) _).mono ?_; rintro e w' ⟨rfl, hb'⟩)
          go_ret
          exact ⟨ret_int (oddI_at hno.out H3.out HC.out).symm, hb.trans (hb'.mono hb.size)⟩
        | false =>
          have HC := Lib.hid hc
          rw [hc] at h3
          clear hc
          go_wp2_with (go_at_call 33; refine (odd_walk p.isStar false _ (.inr ⟨_, _, rfl⟩) _).mono ?_; rintro e w' ⟨rfl, hb'⟩)
          go_roundw
          case rel =>
            refine ⟨k + 1, by omega, by go_num, fun j c' hj hjc => ?_, hb.trans (hb'.mono hb.size)⟩
            by_cases hjk : j < k
            · exact hno.out j c' hjk hjc
            · have e : j = k := by omega
              subst e
              rw [H3.out] at hjc
              injection hjc with hjc
              rw [← hjc]; exact HC.out
          case measure => simp [intOf]; omega
    · go_wp2
      go_ret
      refine ⟨ret_int (oddI_none fun j c' hjc => hno.out j c' ?_ hjc).symm, hb⟩
      have := (List.getElem?_eq_some_iff.1 hjc).1
      omega

set_option maxHeartbeats 800000 in
theorem anyodd_walk (l : List Piece) (A : Option Addr) (cap : Nat) (w : World) (hr : PcsAt w A l) :
    Calls Try.prog 32 #[.slice A l.length cap, .func (.func 33) #[] #[]] w fun e w' => e = .returned (.bool (l.any Piece.odd)) ∧ Below w.heap.size w w' := by
  go_enter Try.func32, Try.ntmps32
  go_wp2_with (go_at_call 48; refine (oddidx_walk l A cap w hr).mono ?_; rintro e w' ⟨rfl, hb'⟩)
  go_ret
  exact ⟨ret_bool (oddI_any l), hb'⟩

set_option maxHeartbeats 800000 in
theorem magic_walk (rs : List Rn) (A : Option Addr) (cap : Nat) (w : World)
    (hA : ∀ ad, A = some ad → 0 < rs.length → ad.block < w.heap.size) (hR : ReadsRn w A rs) (hts : (charsOf rs).length ≤ 1099511627776) :
    Calls Try.prog 19 #[.slice A rs.length cap] w fun e w' => e = .returned (.bool ((pieces (charsOf rs)).any Piece.odd)) ∧ Below w.heap.size w w' := by
  have HPW : Hid (∀ W, Below w.heap.size w W → Calls Try.prog 26 #[.slice A rs.length cap] W fun e w' => (∃ A' c, e = .returned (.slice A' (pieces (charsOf rs)).length c) ∧ PcsAt w' A' (pieces (charsOf rs))) ∧ Below W.heap.size W w') :=
    fun W hW => pieces_walk rs A cap W (fun ad e h => Nat.lt_of_lt_of_le (hA ad e h) hW.size) (hR.below_ hA hW) hts
  generalize pieces (charsOf rs) = P at *
  clear hR hA
  go_enter Try.func19, Try.ntmps19
  go_wp2_with (first | (go_at_call 26; refine (HPW.out _ (Below.refl _ _)).mono ?_; rintro e w1 ⟨⟨A1, c1, rfl, hp⟩, hb⟩) | (go_at_call 32; refine (anyodd_walk _ _ _ _ hp).mono ?_; rintro e w2 ⟨rfl, hb2⟩))
  go_ret
  exact ⟨rfl, hb.trans (hb2.mono hb.size)⟩
end Go.Proofs.Ythbnnlhkcaomlaa.Gl
