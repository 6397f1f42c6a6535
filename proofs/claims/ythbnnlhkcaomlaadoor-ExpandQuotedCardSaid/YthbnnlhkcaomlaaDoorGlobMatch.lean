/- The walk of glob.Match. -/
import Derived.Test.YthbnnlhkcaomlaaDoorGlobPieces
import Derived.WalkMore
namespace Go.Proofs.YthbnnlhkcaomlaaDoor.Gl
open Go.RowKit Go.Shelf Go.Proofs.YthbnnlhkcaomlaaDoorW.PrintWords

set_option maxHeartbeats 400000 in
set_option maxRecDepth 100000 in
theorem any_walk (b : UInt8) (w : World) :
    Calls Tryd.prog 62 #[.int .u8 (b.toNat : Int)] w fun e w' => e = .returned (.bool true) ∧ Below w.heap.size w w' := by
  go_enter Tryd.func62, Tryd.ntmps62
  go_wp2
  go_ret
  exact ⟨rfl, Below.refl _ _⟩

set_option maxHeartbeats 400000 in
set_option maxRecDepth 100000 in
theorem lit_walk (b c : UInt8) (q : Bool) (B : Nat) (w : World) (h : w.heap[B]? = some (.cells #[.int .u8 (c.toNat : Int), .bool q] 121 (0, 0))) :
    Calls Tryd.prog 63 #[.int .u8 (b.toNat : Int), .pointer (some ⟨B, 0, none⟩)] w fun e w' => e = .returned (.bool (b == c)) ∧ Below w.heap.size w w' := by
  have c1 := blk_cell h 0
  simp at c1
  go_enter Tryd.func63, Tryd.ntmps63
  go_wp2
  go_ret
  exact ⟨ret_bool (u8_eq b c).symm, Below.refl _ _⟩

/-- A function value that tells the bytes of a piece. -/
def OneAt (w : World) (p : Piece) (v : Value) : Prop := match p with
  | .star => v = .nilFunc
  | .any => v = .func (.func 62) #[] #[]
  | .lit c => ∃ B q, v = .func (.func 63) #[] #[.pointer (some ⟨B, 0, none⟩)] ∧ w.heap[B]? = some (.cells #[.int .u8 (c.toNat : Int), .bool q] 121 (0, 0))
  | .set body neg => ∃ A cap B1 B2, v = .func (.func 74) #[] #[.pointer (some ⟨B1, 0, none⟩), .pointer (some ⟨B2, 0, none⟩)] ∧
    ReadsCh w A body ∧ w.heap[B1]? = some (.cells #[.slice A body.length cap] 116 (0, 0)) ∧ w.heap[B2]? = some (.cells #[.bool neg] 4 (0, 0)) ∧ body.length ≤ 1099511627776

theorem PieceR.one_at {n₀ : Nat} {w : World} {p : Piece} {cs : List Value} (h : PieceR n₀ w p cs) (hb : ∀ body neg, p = .set body neg → body.length ≤ 1099511627776) :
    ∃ v, cs = [.bool p.isStar, v, .bool p.odd] ∧ OneAt w p v := by
  cases p with
  | star => exact ⟨_, h, rfl⟩
  | any => exact ⟨_, h, rfl⟩
  | lit c =>
    obtain ⟨B, q, e, hB⟩ := h
    exact ⟨_, e, B, q, rfl, hB⟩
  | set body neg =>
    obtain ⟨v, e, A, cap, B1, B2, rfl, hr, h1, h2, h3, h4, h5⟩ := h
    exact ⟨_, e, A, cap, B1, B2, rfl, hr, h1, h2, hb _ _ rfl⟩

theorem OneAt.below {w w1 : World} {p : Piece} {v : Value} (h : OneAt w p v) (hb : Below w.heap.size w w1) : OneAt w1 p v := by
  cases p with
  | star => exact h
  | any => exact h
  | lit c => obtain ⟨B, q, e, hB⟩ := h; exact ⟨B, q, e, (hb.block B (lt_of_block hB)).trans hB⟩
  | set body neg =>
    obtain ⟨A, cap, B1, B2, e, hr, h1, h2, h3⟩ := h
    exact ⟨A, cap, B1, B2, e, hr.below hb, (hb.block B1 (lt_of_block h1)).trans h1, (hb.block B2 (lt_of_block h2)).trans h2, h3⟩

/-- A row of pieces, as its reader meets it. -/
def PcsAt (w : World) (A : Option Addr) (P : List Piece) : Prop := ReadsRow (fun p cs => ∃ v, cs = [.bool p.isStar, v, .bool p.odd] ∧ OneAt w p v) 3 w A P.length P

theorem PcsAt.below {w w1 : World} {A : Option Addr} {P : List Piece} (h : PcsAt w A P) (hb : Below w.heap.size w w1) : PcsAt w1 A P := ReadsRow.imp_ h hb fun _ _ ⟨v, e, ho⟩ => ⟨v, e, ho.below hb⟩

theorem PcsAt.at_ {w : World} {A : Option Addr} {P : List Piece} (h : PcsAt w A P) {i : Nat} {p : Piece} (hi : P[i]? = some p) :
    ∃ ad v, A = some ad ∧ w.cell? (ad.add (i * 3)) = some (.bool p.isStar) ∧ w.cell? ⟨(ad.add (i * 3)).block, (ad.add (i * 3)).off + 1, none⟩ = some v ∧
      w.cell? ⟨(ad.add (i * 3)).block, (ad.add (i * 3)).off + 2, none⟩ = some (.bool p.odd) ∧ OneAt w p v := by
  have hlt : i < P.length := (List.getElem?_eq_some_iff.1 hi).1
  obtain ⟨ad, e, hc⟩ := h.2.2 (by omega)
  obtain ⟨cs, _, ⟨v, hr, ho⟩, hcell⟩ := hc i p hi
  subst hr
  refine ⟨ad, v, e, hcell 0 _ rfl, ?_, ?_, ho⟩
  · rw [← add_field ad (i * 3) 1 (by omega)]; exact hcell 1 _ rfl
  · rw [← add_field ad (i * 3) 2 (by omega)]; exact hcell 2 _ rfl

theorem setOf_body {l : List Ch} {s : SetP} (h : setOf l = some s) : s.body.length ≤ l.length := by
  match l, h with
  | [], h => simp [setOf] at h
  | [c], h => simp [setOf] at h
  | c :: d :: r', h =>
    unfold setOf at h
    simp only at h
    split at h
    · cases h
    · generalize (isC d 33 || isC d 94) = nb at h
      cases nb with
      | true =>
        cases r' with
        | nil => simp at h
        | cons x y =>
          simp only [if_true, Option.map_eq_some_iff] at h
          obtain ⟨k, hk, rfl⟩ := h
          have := findEnd_lt hk
          simp; omega
      | false =>
        simp only [Bool.false_eq_true, if_false, Option.map_eq_some_iff] at h
        obtain ⟨k, hk, rfl⟩ := h
        have := findEnd_lt hk
        simp; omega

theorem piece_body : ∀ (n : Nat) (k : List Ch), k.length ≤ n → ∀ body neg, Piece.set body neg ∈ pieces k → body.length ≤ k.length := by
  intro n
  induction n with
  | zero => intro k hk body neg h; rw [List.length_eq_zero_iff.1 (show k.length = 0 from by omega)] at h; simp [pieces_nil] at h
  | succ n ih =>
    intro k hk body neg h
    cases hs : setOf k with
    | some s =>
      have h1 := setOf_len hs
      have h2 := setOf_le hs
      rw [pieces_set hs] at h
      rcases List.mem_cons.1 h with e | h
      · cases e; exact setOf_body hs
      · have := ih _ (by rw [List.length_drop]; omega) body neg h
        rw [List.length_drop] at this; omega
    | none =>
      cases k with
      | nil => simp [pieces_nil] at h
      | cons c k =>
        rw [pieces_none hs] at h
        simp only [List.length_cons] at hk ⊢
        rcases List.mem_cons.1 h with e | h
        · unfold ofCh at e; split at e
          · cases e
          · split at e <;> cases e
        · have := ih _ (by omega) body neg h; omega

theorem pieces_walk (rs : List Rn) (A : Option Addr) (cap : Nat) (w : World)
    (hA : ∀ ad, A = some ad → 0 < rs.length → ad.block < w.heap.size) (hR : ReadsRn w A rs) (hts : (charsOf rs).length ≤ 1099511627776) :
    Calls Tryd.prog 54 #[.slice A rs.length cap] w fun e w' => (∃ A' c, e = .returned (.slice A' (pieces (charsOf rs)).length c) ∧ PcsAt w' A' (pieces (charsOf rs))) ∧ Below w.heap.size w w' := by
  refine (callsIn_wide.1 (pieces_in 6 (Nat.le_refl _) rs A cap w hA hR hts)).mono ?_
  rintro e w' ⟨⟨v, n₁, rfl, hn, ho⟩, hb⟩
  refine ⟨?_, hb⟩
  obtain ⟨A', c, rfl, hc, hr⟩ := ho.reads
  refine ⟨A', c, rfl, hr.1, hr.2.1, fun hp => ?_⟩
  obtain ⟨ad, e, hcell⟩ := hr.2.2 hp
  refine ⟨ad, e, fun j p hj => ?_⟩
  obtain ⟨cs, h1, h2, h3⟩ := hcell j p hj
  exact ⟨cs, h1, h2.one_at (fun body neg e => Nat.le_trans (piece_body _ _ (Nat.le_refl _) body neg (e ▸ List.mem_of_getElem? hj)) hts), h3⟩

theorem meas1 {z n : Nat} {f f' : Int} (_ : 0 ≤ f) (h : f ≤ f') (hn : n < z) : (z + 1 - f'.toNat) * (z + 2) + (z - ((n : Int) + 1).toNat) < (z + 1 - f.toNat) * (z + 2) + (z - ((n : Int)).toNat) := by
  have := Nat.mul_le_mul_right (z + 2) (show z + 1 - f'.toNat ≤ z + 1 - f.toNat from by omega)
  omega
theorem meas2 {z n : Nat} {f f' : Int} (h0 : 0 ≤ f) (h : f ≤ f') (hf : f' ≤ n) (hn : n < z) : (z + 1 - (f' + 1).toNat) * (z + 2) + (z - (f' + 1).toNat) < (z + 1 - f.toNat) * (z + 2) + (z - ((n : Int)).toNat) := by
  have := Nat.mul_le_mul_right (z + 2) (show (z + 1 - (f' + 1).toNat) + 1 ≤ z + 1 - f.toNat from by omega)
  rw [Nat.add_mul] at this
  omega
theorem beq_nat (k m : Nat) : ((k : Int) == (m : Int)) = decide (k = m) := by rw [Bool.eq_iff_iff]; simp; omega

set_option maxRecDepth 100000 in
set_option maxHeartbeats 4000000 in
set_option maxRecDepth 100000 in
theorem match_walk (rs : List Rn) (A : Option Addr) (cap : Nat) (s : ByteArray) (w : World)
    (hA : ∀ ad, A = some ad → 0 < rs.length → ad.block < w.heap.size) (hR : ReadsRn w A rs) (hts : (charsOf rs).length ≤ 1099511627776) (hs : s.size ≤ 1099511627776) :
    Calls Tryd.prog 46 #[.slice A rs.length cap, .string s] w fun e w' => e = .returned (.bool (matchP (pieces (charsOf rs)) s.data.toList)) ∧ Below w.heap.size w w' := by
  go_enter Tryd.func46, Tryd.ntmps46
  obtain ⟨P, hP⟩ : ∃ P, P = pieces (charsOf rs) := ⟨_, rfl⟩
  obtain ⟨T, hT⟩ : ∃ T, T = s.data.toList := ⟨_, rfl⟩
  have hTl : T.length = s.size := by rw [hT]; simp
  rw [← hP, ← hT]
  have hPw : ∀ W, Below w.heap.size w W → Calls Tryd.prog 54 #[.slice A rs.length cap] W fun e w' => (∃ A' c, e = .returned (.slice A' P.length c) ∧ PcsAt w' A' P) ∧ Below W.heap.size W w' := by
    intro W hW
    rw [hP]
    exact pieces_walk rs A cap W (fun ad e h => Nat.lt_of_lt_of_le (hA ad e h) hW.size) (hR.below_ hA hW) hts
  have HPW := Lib.hid hPw
  have HP := Lib.hid hP
  have HT := Lib.hid hT
  clear hP hT hPw hR hA
  go_wp2_with (first | go_step3 | (go_at_call 54; refine (HPW.out _ (Below.refl _ _)).mono ?_; rintro e w1 ⟨⟨A1, c1, rfl, hp⟩, hb⟩))
  have hPl := hp.2.1
  have HPC := Lib.hid hp
  clear hp
  go_loopw [6, 7, 8, 9] (fun at_ back from_ i wr => ∃ (a n : Nat) (b f : Int), at_ = .int .i64 a ∧ back = .int .i64 b ∧ from_ = .int .i64 f ∧ i = .int .i64 n ∧ Hid (Inv P T a n b f) ∧ Below w1.heap.size w1 wr) (fun _ _ from_ i _ => (s.size + 1 - (intOf from_).toNat) * (s.size + 2) + (s.size - (intOf i).toNat))
  case atStart => exact ⟨0, 0, -1, 0, rfl, rfl, rfl, rfl, Inv.start P T, Below.refl _ _⟩
  case round =>
    obtain ⟨a, n, b, f, rfl, rfl, rfl, rfl, hinv, hbw⟩ := hrel
    have hn := hinv.out.hi
    have HI := Lib.hid hinv.out
    have HAT := Lib.hid hinv.out.hat
    have hf0 : 0 ≤ f := hinv.out.hf.1
    clear hinv
    by_cases hlt : n < s.size
    · go_wp2_with go_step3
      go_loopw [6, 7, 8] (fun at_ back from_ wr => ∃ (a : Nat) (b' f' : Int), at_ = .int .i64 a ∧ back = .int .i64 b' ∧ from_ = .int .i64 f' ∧ Hid (Inv P T a n b' f') ∧ f ≤ f' ∧ Below w1.heap.size w1 wr) (fun at_ _ _ _ => P.length - (intOf at_).toNat)
      case atStart => exact ⟨a, b, f, rfl, rfl, rfl, HI.out, Int.le_refl _, hbw⟩
      case round =>
        clear HI HAT hbw
        obtain ⟨a, b', f', rfl, rfl, rfl, hinv2, hff, hbw⟩ := hrel
        have HI := Lib.hid hinv2.out
        have HAT := Lib.hid hinv2.out.hat
        clear hinv2
        by_cases hal : a < P.length
        · obtain ⟨p, hp⟩ : ∃ p, P[a]? = some p := ⟨_, List.getElem?_eq_getElem hal⟩
          obtain ⟨ad, v, rfl, p1, p2, p3, po⟩ := (HPC.out.below hbw).at_ hp
          have HPK := Lib.hid hp
          clear hp p3
          cases hps : p.isStar with
          | true =>
            have HPS := Lib.hid hps
            rw [hps] at p1
            clear hps po
            go_wp2
            go_roundw
            case rel => exact ⟨a + 1, (a + 1 : Nat), n, by go_num, by go_num, rfl, HI.out.star HPK.out HPS.out, by have := HI.out.hf; omega, hbw⟩
            case measure => simp [intOf]; omega
          | false =>
            have HPS := Lib.hid hps
            rw [hps] at p1
            have PO := Lib.hid po
            clear hps po
            have HBT : Hid (T[n]? = some s[n]) := by show T[n]? = some s[n]; rw [HT.out]; exact List.getElem?_eq_some_iff.2 ⟨by simpa using hlt, by simp; rfl⟩
            have hn1 : (0 : Int) ≤ (n : Int) := by omega
            have hn2 : (n : Int) < (s.size : Int) := by omega
            have HONE : Hid (∃ v, OneAt wr p v ∧ wr.cell? ⟨(ad.add (a * 3)).block, (ad.add (a * 3)).off + 1, none⟩ = some v) := ⟨v, PO.out, p2⟩
            clear p2
            cases p with
            | star => cases HPS.out
            | any =>
              obtain ⟨v, hv, p2⟩ := HONE.out
              obtain rfl := hv
              clear HONE
              go_wp2
              go_region_held3 (fun w' => w'.cell? ⟨(ad.add (a * 3)).block, (ad.add (a * 3)).off + 1, none⟩ = some (.func (.func 62) #[] #[])) (go_keep) ((go_at_call 62; refine (any_walk s[n] wr.drew).mono ?_; rintro e w2 ⟨rfl, hb2⟩; have q2 := pw_cell_below hb2 (show wr.drew.cell? _ = _ from p2)))
              replace hbw : Below w1.heap.size w1 w2 := hbw.drew.trans (hb2.mono hbw.size)
              clear hb2 q2 p2
              go_wp2
              go_roundw
              case rel => exact ⟨a + 1, n + 1, b', f', by go_num, rfl, rfl, by go_num, HI.out.advance HPK.out HBT.out rfl rfl, hbw⟩
              case measure => exact meas1 hf0 hff (by omega)
            | lit c =>
              obtain ⟨v, hv, p2⟩ := HONE.out
              obtain ⟨B, q, rfl, hB⟩ := hv
              have HB := Lib.hid hB
              clear hB
              clear HONE
              go_wp2
              go_region_held3 (fun w' => w'.cell? ⟨(ad.add (a * 3)).block, (ad.add (a * 3)).off + 1, none⟩ = some (.func (.func 63) #[] #[.pointer (some ⟨B, 0, none⟩)])) (go_keep) ((go_at_call 63; refine (lit_walk s[n] c q B wr.drew HB.out).mono ?_; rintro e w2 ⟨rfl, hb2⟩; have q2 := pw_cell_below hb2 (show wr.drew.cell? _ = _ from p2)))
              replace hbw : Below w1.heap.size w1 w2 := hbw.drew.trans (hb2.mono hbw.size)
              clear hb2 q2 p2
              have HNO0 : Hid (∀ r : Bool, r = false → (s[n] == c) = r → ∀ p b, P[a]? = some p → T[n]? = some b → p.isStar = false ∧ p.one b = false) := by
                intro r hr ho p' b' hp hb
                rw [HPK.out] at hp; rw [HBT.out] at hb
                cases hp; cases hb
                exact ⟨rfl, ho.trans hr⟩
              generalize hr : (s[n] == c) = r
              cases r with
              | true =>
                have HR := Lib.hid hr
                clear hr HNO0
                go_wp2
                go_roundw
                case rel => exact ⟨a + 1, n + 1, b', f', by go_num, rfl, rfl, by go_num, HI.out.advance HPK.out HBT.out rfl HR.out, hbw⟩
                case measure => exact meas1 hf0 hff (by omega)
              | false =>
                have HNO := Lib.hid (HNO0.out false rfl hr)
                clear hr HNO0
                have hf := HI.out.hf
                by_cases hbk : b' < 0
                · have hbd : decide (b' < (0 : Int)) = true := decide_eq_true hbk
                  have HE : Hid (∀ k, k ≤ P.length → a ≤ k → (∀ t, a ≤ t → t < k → ∃ p, P[t]? = some p ∧ p.isStar = true) → (∀ p, P[k]? = some p → p.isStar = false) → matchP P T = (decide (n = s.size) && decide (k = P.length))) := by
                    intro k _ _ _ _
                    rw [HI.out.fails (by omega) hbk HNO.out]
                    have : ¬ n = s.size := by omega
                    simp [this]
                  go_wp2_with go_step3
                  go_loopw [6] (fun at_ wr => ∃ k : Nat, a ≤ k ∧ k ≤ P.length ∧ at_ = .int .i64 k ∧ Hid (∀ t, a ≤ t → t < k → ∃ p, P[t]? = some p ∧ p.isStar = true) ∧ Below w1.heap.size w1 wr) (fun at_ _ => P.length - (intOf at_).toNat)
                  case atStart => exact ⟨a, Nat.le_refl _, HAT.out, rfl, fun t h1 h2 => by omega, hbw⟩
                  case round =>
                    obtain ⟨k, hak, hk, rfl, hst, hbr⟩ := hrel
                    by_cases hkl : k < P.length
                    · obtain ⟨p, hp⟩ : ∃ p, P[k]? = some p := ⟨_, List.getElem?_eq_getElem hkl⟩
                      obtain ⟨ad', v, ead, p1, p2, p3, po⟩ := (HPC.out.below hbr).at_ hp
                      first | obtain rfl := ead | obtain rfl := Option.some.inj ead
                      have HPK := Lib.hid hp
                      clear hp p2 p3 po
                      cases hps : p.isStar with
                      | true =>
                        have HPS := Lib.hid hps
                        rw [hps] at p1
                        clear hps
                        go_wp2
                        go_roundw
                        case rel =>
                          refine ⟨k + 1, by omega, by omega, by go_num, fun t h1 h2 => ?_, hbr⟩
                          rcases Nat.lt_or_ge t k with h | h
                          · exact hst.out t h1 h
                          · obtain rfl : t = k := by omega
                            exact ⟨p, HPK.out, HPS.out⟩
                        case measure => simp [intOf]; omega
                      | false =>
                        have HPS := Lib.hid hps
                        rw [hps] at p1
                        clear hps
                        go_wp2
                        try rw [Exit.noGoto_ret]
                        go_ret
                        refine ⟨ret_bool ?_, hb.trans (hbr.mono hb.size)⟩
                        rw [HE.out k hk hak hst.out (fun p' hp' => by rw [HPK.out] at hp'; cases hp'; exact HPS.out)]
                        simp <;> omega
                    · go_wp2
                      try rw [Exit.noGoto_ret]
                      go_ret
                      refine ⟨ret_bool ?_, hb.trans (hbr.mono hb.size)⟩
                      rw [HE.out k hk hak hst.out (fun p' hp' => absurd (List.getElem?_eq_some_iff.1 hp').1 hkl)]
                      simp <;> omega
                · have hbd : decide (b' < (0 : Int)) = false := by simp; omega
                  go_wp2
                  go_roundw
                  case rel =>
                    refine ⟨b'.toNat, (f' + 1).toNat, b', f' + 1, ?_, rfl, ?_, ?_, HI.out.back (by omega) (by omega) HNO.out, hbw⟩
                    · rw [Int.toNat_of_nonneg (by omega)]
                    · go_num
                    · rw [Int.toNat_of_nonneg (by omega)]
                  case measure => exact meas2 hf0 hff (by omega) (by omega)
            | set body neg =>
              obtain ⟨v, hv, p2⟩ := HONE.out
              obtain ⟨A2, cap2, B1, B2, rfl, hr2, hb1, hb2, hsl⟩ := hv
              have HR2 := Lib.hid hr2
              have HB1 := Lib.hid hb1
              have HB2 := Lib.hid hb2
              have HSL := Lib.hid hsl
              clear hr2 hb1 hb2 hsl
              clear HONE
              go_wp2
              go_region_held3 (fun w' => w'.cell? ⟨(ad.add (a * 3)).block, (ad.add (a * 3)).off + 1, none⟩ = some (.func (.func 74) #[] #[.pointer (some ⟨B1, 0, none⟩), .pointer (some ⟨B2, 0, none⟩)])) (go_keep) ((go_at_call 74; refine (set_walk s[n] body neg A2 cap2 B1 B2 wr.drew HSL.out (HR2.out.below (Below.drew (Below.refl _ _))) HB1.out HB2.out).mono ?_; rintro e w2 ⟨rfl, hb2⟩; have q2 := pw_cell_below hb2 (show wr.drew.cell? _ = _ from p2)))
              replace hbw : Below w1.heap.size w1 w2 := hbw.drew.trans (hb2.mono hbw.size)
              clear hb2 q2 p2
              have HNO0 : Hid (∀ r : Bool, r = false → (inBody s[n] body != neg) = r → ∀ p b, P[a]? = some p → T[n]? = some b → p.isStar = false ∧ p.one b = false) := by
                intro r hr ho p' b' hp hb
                rw [HPK.out] at hp; rw [HBT.out] at hb
                cases hp; cases hb
                exact ⟨rfl, ho.trans hr⟩
              generalize hr : (inBody s[n] body != neg) = r
              cases r with
              | true =>
                have HR := Lib.hid hr
                clear hr HNO0
                go_wp2
                go_roundw
                case rel => exact ⟨a + 1, n + 1, b', f', by go_num, rfl, rfl, by go_num, HI.out.advance HPK.out HBT.out rfl HR.out, hbw⟩
                case measure => exact meas1 hf0 hff (by omega)
              | false =>
                have HNO := Lib.hid (HNO0.out false rfl hr)
                clear hr HNO0
                have hf := HI.out.hf
                by_cases hbk : b' < 0
                · have hbd : decide (b' < (0 : Int)) = true := decide_eq_true hbk
                  have HE : Hid (∀ k, k ≤ P.length → a ≤ k → (∀ t, a ≤ t → t < k → ∃ p, P[t]? = some p ∧ p.isStar = true) → (∀ p, P[k]? = some p → p.isStar = false) → matchP P T = (decide (n = s.size) && decide (k = P.length))) := by
                    intro k _ _ _ _
                    rw [HI.out.fails (by omega) hbk HNO.out]
                    have : ¬ n = s.size := by omega
                    simp [this]
                  go_wp2_with go_step3
                  go_loopw [6] (fun at_ wr => ∃ k : Nat, a ≤ k ∧ k ≤ P.length ∧ at_ = .int .i64 k ∧ Hid (∀ t, a ≤ t → t < k → ∃ p, P[t]? = some p ∧ p.isStar = true) ∧ Below w1.heap.size w1 wr) (fun at_ _ => P.length - (intOf at_).toNat)
                  case atStart => exact ⟨a, Nat.le_refl _, HAT.out, rfl, fun t h1 h2 => by omega, hbw⟩
                  case round =>
                    obtain ⟨k, hak, hk, rfl, hst, hbr⟩ := hrel
                    by_cases hkl : k < P.length
                    · obtain ⟨p, hp⟩ : ∃ p, P[k]? = some p := ⟨_, List.getElem?_eq_getElem hkl⟩
                      obtain ⟨ad', v, ead, p1, p2, p3, po⟩ := (HPC.out.below hbr).at_ hp
                      first | obtain rfl := ead | obtain rfl := Option.some.inj ead
                      have HPK := Lib.hid hp
                      clear hp p2 p3 po
                      cases hps : p.isStar with
                      | true =>
                        have HPS := Lib.hid hps
                        rw [hps] at p1
                        clear hps
                        go_wp2
                        go_roundw
                        case rel =>
                          refine ⟨k + 1, by omega, by omega, by go_num, fun t h1 h2 => ?_, hbr⟩
                          rcases Nat.lt_or_ge t k with h | h
                          · exact hst.out t h1 h
                          · obtain rfl : t = k := by omega
                            exact ⟨p, HPK.out, HPS.out⟩
                        case measure => simp [intOf]; omega
                      | false =>
                        have HPS := Lib.hid hps
                        rw [hps] at p1
                        clear hps
                        go_wp2
                        try rw [Exit.noGoto_ret]
                        go_ret
                        refine ⟨ret_bool ?_, hb.trans (hbr.mono hb.size)⟩
                        rw [HE.out k hk hak hst.out (fun p' hp' => by rw [HPK.out] at hp'; cases hp'; exact HPS.out)]
                        simp <;> omega
                    · go_wp2
                      try rw [Exit.noGoto_ret]
                      go_ret
                      refine ⟨ret_bool ?_, hb.trans (hbr.mono hb.size)⟩
                      rw [HE.out k hk hak hst.out (fun p' hp' => absurd (List.getElem?_eq_some_iff.1 hp').1 hkl)]
                      simp <;> omega
                · have hbd : decide (b' < (0 : Int)) = false := by simp; omega
                  go_wp2
                  go_roundw
                  case rel =>
                    refine ⟨b'.toNat, (f' + 1).toNat, b', f' + 1, ?_, rfl, ?_, ?_, HI.out.back (by omega) (by omega) HNO.out, hbw⟩
                    · rw [Int.toNat_of_nonneg (by omega)]
                    · go_num
                    · rw [Int.toNat_of_nonneg (by omega)]
                  case measure => exact meas2 hf0 hff (by omega) (by omega)
        · have hd : decide ((a : Int) < (P.length : Int)) = false := by simp; omega
          go_wp2
          go_region
          have HNO : Hid (∀ p b, P[a]? = some p → T[n]? = some b → p.isStar = false ∧ p.one b = false) := fun p b hp _ => absurd (List.getElem?_eq_some_iff.1 hp).1 hal
          replace hbw : Below w1.heap.size w1 wr.drew := hbw.drew
          have hf := HI.out.hf
          by_cases hbk : b' < 0
          · have hbd : decide (b' < (0 : Int)) = true := decide_eq_true hbk
            have HE : Hid (∀ k, k ≤ P.length → a ≤ k → (∀ t, a ≤ t → t < k → ∃ p, P[t]? = some p ∧ p.isStar = true) → (∀ p, P[k]? = some p → p.isStar = false) → matchP P T = (decide (n = s.size) && decide (k = P.length))) := by
              intro k _ _ _ _
              rw [HI.out.fails (by omega) hbk HNO.out]
              have : ¬ n = s.size := by omega
              simp [this]
            go_wp2_with go_step3
            go_loopw [6] (fun at_ wr => ∃ k : Nat, a ≤ k ∧ k ≤ P.length ∧ at_ = .int .i64 k ∧ Hid (∀ t, a ≤ t → t < k → ∃ p, P[t]? = some p ∧ p.isStar = true) ∧ Below w1.heap.size w1 wr) (fun at_ _ => P.length - (intOf at_).toNat)
            case atStart => exact ⟨a, Nat.le_refl _, HAT.out, rfl, fun t h1 h2 => by omega, hbw⟩
            case round =>
              obtain ⟨k, hak, hk, rfl, hst, hbr⟩ := hrel
              by_cases hkl : k < P.length
              · exfalso; omega
              · go_wp2
                try rw [Exit.noGoto_ret]
                go_ret
                refine ⟨ret_bool ?_, hb.trans (hbr.mono hb.size)⟩
                rw [HE.out k hk hak hst.out (fun p' hp' => absurd (List.getElem?_eq_some_iff.1 hp').1 hkl)]
                simp <;> omega
          · have hbd : decide (b' < (0 : Int)) = false := by simp; omega
            go_wp2
            go_roundw
            case rel =>
              refine ⟨b'.toNat, (f' + 1).toNat, b', f' + 1, ?_, rfl, ?_, ?_, HI.out.back (by omega) (by omega) HNO.out, hbw⟩
              · rw [Int.toNat_of_nonneg (by omega)]
              · go_num
              · rw [Int.toNat_of_nonneg (by omega)]
            case measure => exact meas2 hf0 hff (by omega) (by omega)
    · have hne : n = s.size := by omega
      have HE : Hid (∀ k, k ≤ P.length → a ≤ k → (∀ t, a ≤ t → t < k → ∃ p, P[t]? = some p ∧ p.isStar = true) → (∀ p, P[k]? = some p → p.isStar = false) → matchP P T = (decide (n = s.size) && decide (k = P.length))) := by
        intro k hk hak h1 h2
        subst hne
        have hv := HI.out
        rw [← hTl] at hv
        rw [Bool.eq_iff_iff, hv.over, stars_upto hk hak h1 h2]
        simp
      subst hne
      go_wp2_with go_step3
      go_loopw [6] (fun at_ wr => ∃ k : Nat, a ≤ k ∧ k ≤ P.length ∧ at_ = .int .i64 k ∧ Hid (∀ t, a ≤ t → t < k → ∃ p, P[t]? = some p ∧ p.isStar = true) ∧ Below w1.heap.size w1 wr) (fun at_ _ => P.length - (intOf at_).toNat)
      case atStart => exact ⟨a, Nat.le_refl _, HAT.out, rfl, fun t h1 h2 => by omega, hbw⟩
      case round =>
        obtain ⟨k, hak, hk, rfl, hst, hbr⟩ := hrel
        by_cases hkl : k < P.length
        · obtain ⟨p, hp⟩ : ∃ p, P[k]? = some p := ⟨_, List.getElem?_eq_getElem hkl⟩
          obtain ⟨ad', v, ead, p1, p2, p3, po⟩ := (HPC.out.below hbr).at_ hp
          first | obtain rfl := ead | obtain rfl := Option.some.inj ead
          have HPK := Lib.hid hp
          clear hp p2 p3 po
          cases hps : p.isStar with
          | true =>
            have HPS := Lib.hid hps
            rw [hps] at p1
            clear hps
            go_wp2
            go_roundw
            case rel =>
              refine ⟨k + 1, by omega, by omega, by go_num, fun t h1 h2 => ?_, hbr⟩
              rcases Nat.lt_or_ge t k with h | h
              · exact hst.out t h1 h
              · obtain rfl : t = k := by omega
                exact ⟨p, HPK.out, HPS.out⟩
            case measure => simp [intOf]; omega
          | false =>
            have HPS := Lib.hid hps
            rw [hps] at p1
            clear hps
            go_wp2
            try rw [Exit.noGoto_ret]
            go_ret
            refine ⟨ret_bool ?_, hb.trans (hbr.mono hb.size)⟩
            rw [HE.out k hk hak hst.out (fun p' hp' => by rw [HPK.out] at hp'; cases hp'; exact HPS.out)]
            simp [beq_nat] <;> omega
        · go_wp2
          try rw [Exit.noGoto_ret]
          go_ret
          refine ⟨ret_bool ?_, hb.trans (hbr.mono hb.size)⟩
          rw [HE.out k hk hak hst.out (fun p' hp' => absurd (List.getElem?_eq_some_iff.1 hp').1 hkl)]
          simp [beq_nat] <;> omega
end Go.Proofs.YthbnnlhkcaomlaaDoor.Gl
