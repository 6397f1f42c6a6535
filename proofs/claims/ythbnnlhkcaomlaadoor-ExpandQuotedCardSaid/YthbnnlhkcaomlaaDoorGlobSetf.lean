/- The walk of glob.set: the set that begins a list, as a function, and how long it is. -/
import Derived.Test.YthbnnlhkcaomlaaDoorGlobSet
namespace Go.Proofs.YthbnnlhkcaomlaaDoor.Gl
open Go.RowKit Go.Proofs.YthbnnlhkcaomlaaDoorW.PrintWords

theorem ReadsCh.take {w : World} {A : Option Addr} {l : List Ch} (h : ReadsCh w A l) {m : Nat} (hm : m ≤ l.length) : ReadsCh w A (l.take m) := by
  have hl : (l.take m).length = m := by rw [List.length_take]; omega
  refine ⟨rfl, by rw [hl]; have := h.2.1; omega, fun hp => ?_⟩
  obtain ⟨ad, e, hc⟩ := h.2.2 (by omega)
  refine ⟨ad, e, fun j p hj => hc j p ?_⟩
  rw [List.getElem?_take] at hj
  split at hj
  · exact hj
  · cases hj
theorem ReadsCh.drop {w : World} {A : Option Addr} {l : List Ch} (h : ReadsCh w A l) {m c : Nat} (hm : m ≤ l.length) (hc : l.length ≤ c) : ReadsCh w (if c = m then A else A.map (·.add (m * 2))) (l.drop m) := by
  have hl : (l.drop m).length = l.length - m := List.length_drop
  refine ⟨rfl, by rw [hl]; have := h.2.1; omega, fun hp => ?_⟩
  rw [hl] at hp
  obtain ⟨ad, rfl, hcell⟩ := h.2.2 (by omega)
  rw [if_neg (by omega)]
  refine ⟨ad.add (m * 2), rfl, fun j p hj => ?_⟩
  rw [List.getElem?_drop] at hj
  obtain ⟨cs, h1, h2, h3⟩ := hcell (m + j) p hj
  refine ⟨cs, h1, h2, fun i u hu => ?_⟩
  rw [add_add, show m * 2 + (j * 2 + i) = (m + j) * 2 + i by omega]
  exact h3 i u hu
theorem ReadsCh.mid {w : World} {A : Option Addr} {l : List Ch} (h : ReadsCh w A l) {lo hi c : Nat} (h1 : lo ≤ hi) (h2 : hi ≤ l.length) (hc : l.length ≤ c) : ReadsCh w (if c = lo then A else A.map (·.add (lo * 2))) ((l.take hi).drop lo) := by
  have hl : (l.take hi).length = hi := by rw [List.length_take]; omega
  exact (h.take h2).drop (by omega) (by omega)

/-- The row lies in a block of characters. -/
def ChBlk (w : World) (A : Option Addr) : Prop := ∀ ad, A = some ad → ∃ cs, w.heap[ad.block]? = some (.cells cs 121 (0, 0))
theorem ChBlk.below {w w1 : World} {A : Option Addr} (h : ChBlk w A) (hb : Below w.heap.size w w1) : ChBlk w1 A := fun ad e => by
  obtain ⟨cs, hc⟩ := h ad e
  exact ⟨cs, (hb.block _ (lt_of_block hc)).trans hc⟩
theorem ChBlk.cut {w : World} {A : Option Addr} (h : ChBlk w A) (c m k : Nat) : ChBlk w (if c = m then A else A.map (·.add k)) := by
  intro ad e
  split at e
  · exact h ad e
  · cases A with
    | none => cases e
    | some a0 => cases e; obtain ⟨cs, hc⟩ := h a0 rfl; exact ⟨cs, by rw [add_block]; exact hc⟩

/-- A function value that tells the bytes of a set; its boxes lie from n₀ on. -/
def SetAt (n₀ : Nat) (w : World) (body : List Ch) (neg : Bool) (v : Value) : Prop := ∃ A cap B1 B2, v = .func (.func 74) #[] #[.pointer (some ⟨B1, 0, none⟩), .pointer (some ⟨B2, 0, none⟩)] ∧
  ReadsCh w A body ∧ w.heap[B1]? = some (.cells #[.slice A body.length cap] 116 (0, 0)) ∧ w.heap[B2]? = some (.cells #[.bool neg] 4 (0, 0)) ∧ n₀ ≤ B1 ∧ n₀ ≤ B2 ∧ ChBlk w A

theorem SetAt.below {n₀ : Nat} {w w1 : World} {body : List Ch} {neg : Bool} {v : Value} (h : SetAt n₀ w body neg v) (hb : Below w.heap.size w w1) : SetAt n₀ w1 body neg v := by
  obtain ⟨A, cap, B1, B2, e, hr, h1, h2, h3, h4, h5⟩ := h
  exact ⟨A, cap, B1, B2, e, hr.below hb, (hb.block B1 (lt_of_block h1)).trans h1, (hb.block B2 (lt_of_block h2)).trans h2, h3, h4, h5.below hb⟩

/-- What glob.set answers. -/
def SetRes (n₀ : Nat) (l : List Ch) (e : Ending) (w : World) : Prop := match setOf l with
  | none => e = .returned (.tuple #[.nilFunc, .int .i64 0])
  | some s => ∃ v, e = .returned (.tuple #[v, .int .i64 s.len]) ∧ SetAt n₀ w s.body s.neg v

theorem SetRes_none {n₀ : Nat} {l : List Ch} {w : World} (h : setOf l = none) : SetRes n₀ l (.returned (.tuple #[.nilFunc, .int .i64 0])) w := by
  unfold SetRes; rw [h]
theorem SetRes_some {n₀ : Nat} {l : List Ch} {w : World} {s : SetP} {v : Value} (h : setOf l = some s) (hv : SetAt n₀ w s.body s.neg v) : SetRes n₀ l (.returned (.tuple #[v, .int .i64 s.len])) w := by
  unfold SetRes; rw [h]; exact ⟨v, rfl, hv⟩

theorem setOf_at {c d : Ch} {r : List Ch} (hc : isC c 91 = true) {from_ : Nat} (hf : from_ = if isC d 33 || isC d 94 then 2 else 1) :
    setOf (c :: d :: r) = if from_ + 1 < (c :: d :: r).length then (findEnd ((c :: d :: r).drop (from_ + 1))).map fun k => ⟨((c :: d :: r).take (k + (from_ + 1))).drop from_, isC d 33 || isC d 94, k + (from_ + 1) + 1⟩ else none := by
  simp only [setOf, hc, Bool.not_true, Bool.false_eq_true, if_false]
  subst hf
  cases hn : (isC d 33 || isC d 94) with
  | true =>
    simp only [if_true, List.length_cons, List.drop_succ_cons]
    cases r with
    | nil => simp
    | cons x y =>
      simp only [List.length_cons, List.drop_succ_cons, List.drop_zero]
      cases y with
      | nil => simp [findEnd]
      | cons z y =>
        rw [if_pos (by simp only [List.length_cons]; omega)]
        cases findEnd (z :: y) with
        | none => rfl
        | some k => simp only [Option.map_some, Option.some.injEq, SetP.mk.injEq, true_and]; exact ⟨by rw [show k + (2 + 1) = k + 3 from rfl]; simp [List.take_succ_cons], by omega⟩
  | false =>
    simp only [Bool.false_eq_true, if_false, List.length_cons, List.drop_succ_cons, List.drop_zero]
    cases r with
    | nil => simp [findEnd]
    | cons x y =>
      rw [if_pos (by simp only [List.length_cons]; omega)]
      cases findEnd (x :: y) with
      | none => rfl
      | some k => simp only [Option.map_some, Option.some.injEq, SetP.mk.injEq, true_and]; exact ⟨by simp [List.take_succ_cons], by omega⟩

theorem findEnd_lt : ∀ {l : List Ch} {k : Nat}, findEnd l = some k → k < l.length
  | [], k, h => by simp [findEnd] at h
  | c :: l, k, h => by
    unfold findEnd at h
    split at h
    · injection h with h; subst h; simp
    · rw [Option.map_eq_some_iff] at h
      obtain ⟨j, hj, rfl⟩ := h
      have := findEnd_lt hj
      simp; omega

theorem end_walk' (l : List Ch) (n : Nat) (A : Option Addr) (cap : Nat) (w : World) (hn : l.length = n) (hr : ReadsCh w A l) :
    Calls Tryd.prog 72 #[.slice A n cap, .func (.func 73) #[] #[]] w fun e w' => e = .returned (.int .i64 (endI l)) ∧ Below w.heap.size w w' := by
  subst hn; exact end_walk l A cap w hr

theorem ret_tuple2 {v : Value} {k : IntKind} {a b : Int} (h : a = b) : Ending.returned (.tuple #[v, .int k a]) = .returned (.tuple #[v, .int k b]) := by rw [h]

theorem charInfo : (Tryd.prog.info? 121).map (fun i => (i.zero, i.size, i.bytes)) = some (some (.agg #[.int .u8 0, .bool false]), 2, 2) := by kernel_rfl

set_option maxHeartbeats 1600000 in
set_option maxRecDepth 100000 in
theorem setf_walk (l : List Ch) (A : Option Addr) (cap : Nat) (w : World) (hl : l.length ≤ 1099511627776) (hcap : l.length ≤ cap) (hr : ReadsCh w A l) (hblk : ChBlk w A) :
    Calls Tryd.prog 60 #[.slice A l.length cap] w fun e w' => SetRes w.heap.size l e w' ∧ Below w.heap.size w w' := by
  obtain ⟨i0, hi, hz0, hz1, hz2⟩ := info_parts charInfo
  cases l with
  | nil =>
    go_enter Tryd.func60, Tryd.ntmps60
    go_wp2
    go_ret2
    exact ⟨rfl, Below.refl _ _⟩
  | cons c l =>
    cases l with
    | nil =>
      go_enter Tryd.func60, Tryd.ntmps60
      go_wp2
      go_ret2
      refine ⟨?_, Below.refl _ _⟩
      unfold SetRes setOf
      simp
    | cons d r =>
      have hlen : 2 ≤ (c :: d :: r).length := by simp
      have hc0 : (c :: d :: r)[0]? = some c := rfl
      have hd0 : (c :: d :: r)[1]? = some d := rfl
      have hAt := fun (hc : isC c 91 = true) => setOf_at (r := r) (d := d) hc rfl
      have hNone : isC c 91 = false → setOf (c :: d :: r) = none := fun h => by simp [setOf, h]
      have HAT := Lib.hid hAt
      have HNO := Lib.hid hNone
      clear hAt hNone
      generalize c :: d :: r = l at *
      obtain ⟨ad, rfl, c1, c2⟩ := hr.at_ hc0
      obtain ⟨_, e1, d1, d2⟩ := hr.at_ hd0
      obtain rfl := Option.some.inj e1
      clear e1 hc0 hd0
      have hz : ad.add (0 * 2) = ad := by simp [Addr.add]
      rw [hz] at c1 c2
      clear hz
      have h12 : ad.add (1 * 2) = ⟨ad.block, ad.off + 2, none⟩ := by simp [Addr.add]
      rw [h12] at d1 d2
      clear h12
      have d3 : w.cell? ⟨ad.block, ad.off + 3, none⟩ = some (.bool d.2) := d2
      clear d2
      have d2 := d3
      clear d3
      cases hc : isC c 91 with
      | false =>
        have HN := Lib.hid (HNO.out hc)
        have HC := Lib.hid hc
        clear hc
        go_enter Tryd.func60, Tryd.ntmps60
        go_wp2_with (go_at_call 61; refine (is_walk c _ _).mono ?_; rintro e w1 ⟨rfl, hb1⟩; rw [isL_one, HC.out])
        go_ret2
        exact ⟨SetRes_none HN.out, hb1⟩
      | true =>
        have HN := Lib.hid (HAT.out hc)
        have HC := Lib.hid hc
        clear hc HAT HNO
        go_enter Tryd.func60, Tryd.ntmps60
        go_wp2_with fail
        refine (is_walk c _ _).mono ?_
        rintro e w1 ⟨rfl, hb1⟩
        rw [isL_one, HC.out]
        have d1' := pw_cell_below hb1 d1
        have d2' := pw_cell_below hb1 d2
        have hr1 := hr.below hb1
        clear c1 c2 d1 d2 hr
        go_wp2_with fail
        refine (is_walk d _ _).mono ?_
        rintro e w2 ⟨rfl, hb2⟩
        rw [isL_two]
        have hr2 := hr1.below hb2
        have hbw2 := hb1.trans (hb2.mono hb1.size)
        clear hr1 hb1 hb2 d1' d2'
        obtain ⟨neg, hneg⟩ : ∃ neg, neg = (isC d 33 || isC d 94) := ⟨_, rfl⟩
        rw [← hneg]
        rw [← hneg] at HN
        clear hneg HC
        cases neg with
        | true =>
          have HN2 := Lib.hid (show setOf l = if 3 < l.length then (findEnd (l.drop 3)).map fun k => ⟨(l.take (k + 3)).drop 2, true, k + 3 + 1⟩ else none from HN.out)
          clear HN
          by_cases hlt : 3 < l.length
          · have HN := Lib.hid (HN2.out.trans (if_pos hlt))
            clear HN2
            obtain ⟨A1, hA1⟩ : ∃ A1 : Option Addr, A1 = (if cap = 3 then some ad else (some ad).map (·.add (3 * 2))) := ⟨_, rfl⟩
            have hcut : ∀ W : World, (Instr.slice 116 (.slice (some ad) l.length cap) (some (.int .i64 3)) none none).run Tryd.prog W = .ok (.slice A1 (l.drop 3).length (cap - 3)) W := by
              intro W
              have h := cut_from (P := Tryd.prog) 116 121 .i64 Tryd.underlying116 hi 2 hz1 (some ad) l.length cap 3 (by omega) (by omega) W
              rw [List.length_drop, hA1]
              exact h
            have hrd : ∀ W, ReadsCh W (some ad) l → ReadsCh W A1 (l.drop 3) := fun W h => by rw [hA1]; exact h.drop (by omega) hcap
            have HRD := Lib.hid hrd
            clear hA1 hrd
            go_wp2_with fail
            refine (end_walk' (l.drop 3) (l.length - 3) A1 (cap - 3) _ (by rw [List.length_drop]) (HRD.out _ (hr2.below ((Below.refl _ _).alloc (Nat.le_refl _) _)))).mono ?_
            rintro e w3 ⟨rfl, hb3⟩
            have hn3 : w3.heap[w2.heap.size]? = some (.cells #[.bool true] 4 (0, 0)) := (hb3.block w2.heap.size (by simp)).trans (heap_alloc_new w2 _)
            have hr3 := (hr2.below ((Below.refl _ w2).alloc (Nat.le_refl _) (.cells #[.bool true] 4))).below hb3
            have hbw3 : Below w.heap.size w w3 := (hbw2.alloc hbw2.size (.cells #[.bool true] 4)).trans (hb3.mono (by have := hbw2.size; simp; omega))
            clear hr2 hb3 hcut
            unfold endI
            cases hk : findEnd (l.drop 3) with
            | none =>
              have HK := Lib.hid hk
              clear hk
              go_wp2
              go_ret2
              exact ⟨SetRes_none (by rw [HN.out, HK.out]; rfl), hbw3⟩
            | some k =>
              have hkl := findEnd_lt hk
              rw [List.length_drop] at hkl
              have hse : setOf l = some ⟨(l.take (k + 3)).drop 2, true, k + 3 + 1⟩ := by rw [HN.out, hk]; rfl
              have HSE := Lib.hid hse
              clear hk hse HN
              obtain ⟨A2, hA2⟩ : ∃ A2 : Option Addr, A2 = (if cap = 2 then some ad else (some ad).map (·.add (2 * 2))) := ⟨_, rfl⟩
              have hcut : ∀ W : World, (Instr.slice 116 (.slice (some ad) l.length cap) (some (.int .i64 2)) (some (.int .i64 ((k : Int) + 3))) none).run Tryd.prog W = .ok (.slice A2 (k + 3 - 2) (cap - 2)) W := by
                intro W
                have h := cut_mid (P := Tryd.prog) 116 121 .i64 .i64 Tryd.underlying116 hi 2 hz1 (some ad) l.length cap 2 ((k : Int) + 3) (by omega) (by omega) (by omega) hcap W
                rw [show ((k : Int) + 3).toNat = k + 3 from by omega] at h
                rw [hA2]
                exact h
              have HBLK := Lib.hid (show ChBlk w A2 from by rw [hA2]; exact ChBlk.cut hblk cap 2 (2 * 2))
              have hrd2 : ReadsCh w3 A2 ((l.take (k + 3)).drop 2) := by rw [hA2]; exact hr3.mid (by omega) (by omega) hcap
              have HRD2 := Lib.hid hrd2
              clear hA2 hrd2 hr3
              go_wp2
              go_ret2
              have hz3 : w3.heap.size < (w3.alloc (.cells #[.slice A2 (k + 3 - 2) (cap - 2)] 116)).heap.size := by simp
              have hbl : Below w3.heap.size w3 (w3.alloc (.cells #[.slice A2 (k + 3 - 2) (cap - 2)] 116)) := (Below.refl _ _).alloc (Nat.le_refl _) _
              have hlen2 : ((l.take (k + 3)).drop 2).length = k + 3 - 2 := by rw [List.length_drop, List.length_take]; omega
              refine ⟨?_, hbw3.trans (hbl.mono hbw3.size)⟩
              have hfin := SetRes_some (w := w3.alloc (.cells #[.slice A2 (k + 3 - 2) (cap - 2)] 116)) HSE.out ⟨A2, cap - 2, w3.heap.size, w2.heap.size, rfl, HRD2.out.below hbl, by rw [hlen2]; exact heap_alloc_new w3 _, (hbl.block _ (lt_of_block hn3)).trans hn3, hbw3.size, hbw2.size, HBLK.out.below (hbw3.trans (hbl.mono hbw3.size))⟩
              have e : (((k + 3 + 1 : Nat)) : Int) = (k : Int) + 3 + 1 := by omega
              dsimp only at hfin
              rw [e] at hfin
              exact hfin
          · have HN := Lib.hid (HN2.out.trans (if_neg hlt))
            clear HN2
            have hge : (l.length : Int) ≤ 3 := by omega
            have hge2 : decide ((3 : Int) ≥ (l.length : Int)) = true := decide_eq_true hge
            go_wp2
            go_ret2
            exact ⟨SetRes_none HN.out, (hbw2.alloc hbw2.size _)⟩
        | false =>
          have HN2 := Lib.hid (show setOf l = if 2 < l.length then (findEnd (l.drop 2)).map fun k => ⟨(l.take (k + 2)).drop 1, false, k + 2 + 1⟩ else none from HN.out)
          clear HN
          by_cases hlt : 2 < l.length
          · have HN := Lib.hid (HN2.out.trans (if_pos hlt))
            clear HN2
            obtain ⟨A1, hA1⟩ : ∃ A1 : Option Addr, A1 = (if cap = 2 then some ad else (some ad).map (·.add (2 * 2))) := ⟨_, rfl⟩
            have hcut : ∀ W : World, (Instr.slice 116 (.slice (some ad) l.length cap) (some (.int .i64 2)) none none).run Tryd.prog W = .ok (.slice A1 (l.drop 2).length (cap - 2)) W := by
              intro W
              have h := cut_from (P := Tryd.prog) 116 121 .i64 Tryd.underlying116 hi 2 hz1 (some ad) l.length cap 2 (by omega) (by omega) W
              rw [List.length_drop, hA1]
              exact h
            have hrd : ∀ W, ReadsCh W (some ad) l → ReadsCh W A1 (l.drop 2) := fun W h => by rw [hA1]; exact h.drop (by omega) hcap
            have HRD := Lib.hid hrd
            clear hA1 hrd
            go_wp2_with fail
            refine (end_walk' (l.drop 2) (l.length - 2) A1 (cap - 2) _ (by rw [List.length_drop]) (HRD.out _ (hr2.below ((Below.refl _ _).alloc (Nat.le_refl _) _)))).mono ?_
            rintro e w3 ⟨rfl, hb3⟩
            have hn3 : w3.heap[w2.heap.size]? = some (.cells #[.bool false] 4 (0, 0)) := (hb3.block w2.heap.size (by simp)).trans (heap_alloc_new w2 _)
            have hr3 := (hr2.below ((Below.refl _ w2).alloc (Nat.le_refl _) (.cells #[.bool false] 4))).below hb3
            have hbw3 : Below w.heap.size w w3 := (hbw2.alloc hbw2.size (.cells #[.bool false] 4)).trans (hb3.mono (by have := hbw2.size; simp; omega))
            clear hr2 hb3 hcut
            unfold endI
            cases hk : findEnd (l.drop 2) with
            | none =>
              have HK := Lib.hid hk
              clear hk
              go_wp2
              go_ret2
              exact ⟨SetRes_none (by rw [HN.out, HK.out]; rfl), hbw3⟩
            | some k =>
              have hkl := findEnd_lt hk
              rw [List.length_drop] at hkl
              have hse : setOf l = some ⟨(l.take (k + 2)).drop 1, false, k + 2 + 1⟩ := by rw [HN.out, hk]; rfl
              have HSE := Lib.hid hse
              clear hk hse HN
              obtain ⟨A2, hA2⟩ : ∃ A2 : Option Addr, A2 = (if cap = 1 then some ad else (some ad).map (·.add (1 * 2))) := ⟨_, rfl⟩
              have hcut : ∀ W : World, (Instr.slice 116 (.slice (some ad) l.length cap) (some (.int .i64 1)) (some (.int .i64 ((k : Int) + 2))) none).run Tryd.prog W = .ok (.slice A2 (k + 2 - 1) (cap - 1)) W := by
                intro W
                have h := cut_mid (P := Tryd.prog) 116 121 .i64 .i64 Tryd.underlying116 hi 2 hz1 (some ad) l.length cap 1 ((k : Int) + 2) (by omega) (by omega) (by omega) hcap W
                rw [show ((k : Int) + 2).toNat = k + 2 from by omega] at h
                rw [hA2]
                exact h
              have HBLK := Lib.hid (show ChBlk w A2 from by rw [hA2]; exact ChBlk.cut hblk cap 1 (1 * 2))
              have hrd2 : ReadsCh w3 A2 ((l.take (k + 2)).drop 1) := by rw [hA2]; exact hr3.mid (by omega) (by omega) hcap
              have HRD2 := Lib.hid hrd2
              clear hA2 hrd2 hr3
              go_wp2
              go_ret2
              have hz3 : w3.heap.size < (w3.alloc (.cells #[.slice A2 (k + 2 - 1) (cap - 1)] 116)).heap.size := by simp
              have hbl : Below w3.heap.size w3 (w3.alloc (.cells #[.slice A2 (k + 2 - 1) (cap - 1)] 116)) := (Below.refl _ _).alloc (Nat.le_refl _) _
              have hlen2 : ((l.take (k + 2)).drop 1).length = k + 2 - 1 := by rw [List.length_drop, List.length_take]; omega
              refine ⟨?_, hbw3.trans (hbl.mono hbw3.size)⟩
              have hfin := SetRes_some (w := w3.alloc (.cells #[.slice A2 (k + 2 - 1) (cap - 1)] 116)) HSE.out ⟨A2, cap - 1, w3.heap.size, w2.heap.size, rfl, HRD2.out.below hbl, by rw [hlen2]; exact heap_alloc_new w3 _, (hbl.block _ (lt_of_block hn3)).trans hn3, hbw3.size, hbw2.size, HBLK.out.below (hbw3.trans (hbl.mono hbw3.size))⟩
              have e : (((k + 2 + 1 : Nat)) : Int) = (k : Int) + 2 + 1 := by omega
              dsimp only at hfin
              rw [e] at hfin
              exact hfin
          · have HN := Lib.hid (HN2.out.trans (if_neg hlt))
            clear HN2
            have hge : (l.length : Int) ≤ 2 := by omega
            have hge2 : decide ((2 : Int) ≥ (l.length : Int)) = true := decide_eq_true hge
            go_wp2
            go_ret2
            exact ⟨SetRes_none HN.out, (hbw2.alloc hbw2.size _)⟩
end Go.Proofs.YthbnnlhkcaomlaaDoor.Gl
