/- For every input that law answers true and leaves its arguments as they were: a part of its proof. Printed by the kit's print tool, with this session's own contracts (wip/glob/ext.py) at the functions that the tool cannot print. Not trusted: Lean checks it. -/
import Derived.Test.YthbnnlhkcaomlaaPGlobStarx0
namespace Go.Proofs.Ythbnnlhkcaomlaa.PGlobStar
open Go.RowKit Go.Proofs.YthbnnlhkcaomlaaW.PrintWords Go.Proofs.YthbnnlhkcaomlaaW.PrintLast Go.Proofs.YthbnnlhkcaomlaaW.PrintMore
attribute [local go_sem] max2_int min2_int max_two min_two max_three min_three max_four min_four   -- for this text's walks alone
set_option linter.unusedVariables false
set_option linter.unusedSimpArgs false

/-! ### what was walked by hand: its words -/
def rnOf (x : S33) : Go.Proofs.Ythbnnlhkcaomlaa.Gl.Rn := ⟨x.f0, x.f1, x.f2⟩
theorem cell_lt {w : World} {p : Addr} {v : Value} (h : w.cell? p = some v) : p.block < w.heap.size := by
  unfold World.cell? at h
  rcases Nat.lt_or_ge p.block w.heap.size with hl | hl
  · exact hl
  · rw [Array.getElem?_eq_none hl] at h
    cases h
theorem rn_reads {w : World} {A : Option Addr} {l : List S33} (h : Kd.C k33 w A l.length l) : Go.Proofs.Ythbnnlhkcaomlaa.Gl.ReadsRn w A (l.map rnOf) := by
  obtain ⟨h1, h2, h3⟩ := h
  refine ⟨rfl, by rw [List.length_map]; exact h2, fun hp => ?_⟩
  rw [List.length_map] at hp
  obtain ⟨ad, e, hc⟩ := h3 hp
  refine ⟨ad, e, fun j p hj => ?_⟩
  rw [List.getElem?_map, Option.map_eq_some_iff] at hj
  obtain ⟨x, hx, rfl⟩ := hj
  obtain ⟨c, hs, hr, hcell⟩ := hc j x hx
  obtain rfl := k33_open hr
  exact ⟨_, rfl, rfl, hcell⟩
theorem rn_lt {w : World} {A : Option Addr} {l : List S33} (h : Kd.C k33 w A l.length l) : ∀ ad, A = some ad → 0 < (l.map rnOf).length → ad.block < w.heap.size := by
  rintro ad rfl hp
  obtain ⟨ad', e, hc, _⟩ := (rn_reads h).at_ (i := 0) (List.getElem?_eq_getElem hp)
  cases e
  have := cell_lt hc
  rwa [add_block] at this
def sumOk (l : List S33) : Prop := (Go.Proofs.Ythbnnlhkcaomlaa.Gl.charsOf (l.map rnOf)).length ≤ 1099511627776
instance (l : List S33) : Decidable (sumOk l) := inferInstanceAs (Decidable (_ ≤ _))

-- NOT PRINTED: function 41 (glob_chars)

-- NOT PRINTED: function 47 (bytealg_IndexByteString)

-- NOT PRINTED: function 29 (stringslite_IndexByte)

/-! ### strings_IndexByte: function 14 -/
def strings_IndexByte.f (a0 : ByteArray) (a1 : Int) : Option Int := some (Lib.indexByte a0.data.toList a1.toNat.toUInt8)
theorem strings_IndexByte.calls (a0 : ByteArray) (a1 : Int) (r : Int) (w : World) (h : strings_IndexByte.f a0 a1 = some r) :
    Calls Try.prog 14 #[.string a0, .int .u8 a1] w fun e w' => e = .returned (.int .i64 r) ∧ Below w.heap.size w w' := by
  obtain rfl := Option.some.inj h
  exact (Try.strings_IndexByte a0 a1 w).mono fun e w' ⟨h1, h2⟩ => ⟨h1, by rw [h2]; exact Below.refl _ _⟩

/-! ### glob_char_is: function 43 -/
def glob_char_is.f (a0_0 : Int) (a0_1 : Bool) (a1 : ByteArray) : Option (Bool) := if a0_1 = true then (some false) else ((strings_IndexByte.f a1 a0_0).bind fun t102 => (some (decide (t102 ≥ 0))))
set_option maxHeartbeats 8000000 in
set_option maxRecDepth 100000 in
theorem glob_char_is.calls (a0_0 : Int) (a0_1 : Bool) (a1 : ByteArray) (r : Bool) (w : World) (h : glob_char_is.f a0_0 a0_1 a1 = some r) :
    Calls Try.prog 43 #[.agg #[.int .u8 a0_0, .bool a0_1], .string a1] w fun e w' => e = .returned (.bool r) ∧ Below w.heap.size w w' := by
  have hu73 := Try.underlying73
  have HB := Aside0.mk (Below.refl w.heap.size w)
  have H : (if a0_1 = true then (some false) else ((strings_IndexByte.f a1 a0_0).bind fun t102 => (some (decide (t102 ≥ 0))))) = some r := h
  clear h
  by_cases c3 : a0_1 = true
  · subst c3
    have H1 : (some false) = some r := by rw [if_pos rfl] at H; exact H
    clear H
    have H := H1
    clear H1
    obtain rfl := Option.some.inj H
    go_enter Try.func43, Try.ntmps43
    go_wp2_with (first | ((with_reducible refine gate_dst (N := 2) rfl ?_); refine box_event ?hg (N := 2) ?hd (cs := #[.int .u8 a0_0, .bool true]) (t := 73) ?hr ?_; (case hd => rfl); (case hg => rfl); (case hr => first | (go_simp; done) | (go_simp; rfl)); intro gb101 hg w4 hbox hb; have n0_ := Aside0.mk (below_step (by repeat (first | (with_reducible first | exact HB.out | apply below_alloc | apply pw_below_drewN | apply below_drew1) | exact HB.out)) hb); have n1_ := Aside0.mk (hbox); have n2_ := Aside0.mk ((by rw [hg]; exact (below_size (by repeat (first | (with_reducible first | exact HB.out | apply below_alloc | apply pw_below_drewN | apply below_drew1) | exact HB.out))) : w.heap.size ≤ gb101)); have n3_ := Aside0.mk ((by rw [hg]; exact (below_size (by repeat (first | (with_reducible first | exact HB.out | apply below_alloc | apply pw_below_drewN | apply below_drew1) | exact HB.out))) : w.heap.size ≤ gb101)); clear HB; have HB := n0_; have BK101 := n1_; have GW101 := n2_; have GE101 := n3_; clear n0_ n1_ n2_ n3_; clear hb hbox hg; have hcz5_0 : w4.cell? ⟨gb101, 0, none⟩ = some (.int .u8 a0_0) := (blk_cell BK101.out 0).trans rfl; have hcz5_1 : w4.cell? ⟨gb101, 1, none⟩ = some (.bool true) := (blk_cell BK101.out 1).trans rfl; have hfz5_0 := blk_frozen BK101.out 0; have hfz5_1 := blk_frozen BK101.out 1))
    go_ret
    exact ⟨by first | rfl | (simp [errW_none, errW_some] <;> rfl) | (simp [*, errW_none, errW_some] <;> rfl), by repeat (first | (with_reducible first | exact HB.out | apply below_alloc | apply pw_below_drewN | apply below_drew1 | refine below_set ?_ GE101.out) | exact HB.out)⟩
  · replace c3 := Bool.eq_false_iff.mpr c3
    subst c3
    have H1 : ((strings_IndexByte.f a1 a0_0).bind fun t102 => (some (decide (t102 ≥ 0)))) = some r := by rw [if_neg (show ¬ (false = true) by decide)] at H; exact H
    clear H
    have H := H1
    clear H1
    replace H := Option.bind_eq_some_iff.mp H
    obtain ⟨t102, A60, H⟩ := H
    replace H : (some (decide (t102 ≥ 0))) = some r := H
    have A6 := Aside0.mk A60
    clear A60
    obtain rfl := Option.some.inj H
    go_enter Try.func43, Try.ntmps43
    go_wp2_with (first | ((with_reducible refine gate_dst (N := 2) rfl ?_); refine box_event ?hg (N := 2) ?hd (cs := #[.int .u8 a0_0, .bool false]) (t := 73) ?hr ?_; (case hd => rfl); (case hg => rfl); (case hr => first | (go_simp; done) | (go_simp; rfl)); intro gb101 hg w7 hbox hb; have n0_ := Aside0.mk (below_step (by repeat (first | (with_reducible first | exact HB.out | apply below_alloc | apply pw_below_drewN | apply below_drew1) | exact HB.out)) hb); have n1_ := Aside0.mk (hbox); have n2_ := Aside0.mk ((by rw [hg]; exact (below_size (by repeat (first | (with_reducible first | exact HB.out | apply below_alloc | apply pw_below_drewN | apply below_drew1) | exact HB.out))) : w.heap.size ≤ gb101)); have n3_ := Aside0.mk ((by rw [hg]; exact (below_size (by repeat (first | (with_reducible first | exact HB.out | apply below_alloc | apply pw_below_drewN | apply below_drew1) | exact HB.out))) : w.heap.size ≤ gb101)); clear HB; have HB := n0_; have BK101 := n1_; have GW101 := n2_; have GE101 := n3_; clear n0_ n1_ n2_ n3_; clear hb hbox hg; have hcz8_0 : w7.cell? ⟨gb101, 0, none⟩ = some (.int .u8 a0_0) := (blk_cell BK101.out 0).trans rfl; have hcz8_1 : w7.cell? ⟨gb101, 1, none⟩ = some (.bool false) := (blk_cell BK101.out 1).trans rfl; have hfz8_0 := blk_frozen BK101.out 0; have hfz8_1 := blk_frozen BK101.out 1) | (go_at_call 14; (with_reducible refine (strings_IndexByte.calls a1 a0_0 t102 _ A6.out).mono ?_); rintro e w9 ⟨rfl, hb⟩; have n0_ := Aside0.mk (blk_below (g := gb101) (o := .cells #[.int .u8 a0_0, .bool false] 73 (0, 0)) (by (with_reducible repeat (first | refine blk_drewN ?_ _ | refine blk_drew ?_ | refine blk_alloc ?_ _)); exact BK101.out) hb); have n1_ := Aside0.mk (below_step (by repeat (first | (with_reducible first | exact HB.out | apply below_alloc | apply pw_below_drewN | apply below_drew1 | refine below_set ?_ GE101.out) | exact HB.out)) hb); clear BK101; clear HB; have BK101 := n0_; have HB := n1_; clear n0_ n1_; (try clear hb); (try clear hb2); (try clear hk); (try clear hi)))
    go_ret
    exact ⟨by first | rfl | (simp [errW_none, errW_some] <;> rfl) | (simp [*, errW_none, errW_some] <;> rfl), by repeat (first | (with_reducible first | exact HB.out | apply below_alloc | apply pw_below_drewN | apply below_drew1 | refine below_set ?_ GE101.out) | exact HB.out)⟩

-- NOT PRINTED: function 54 (glob_char)

-- NOT PRINTED: function 42 (glob_set)

-- NOT PRINTED: function 26 (glob_pieces)

/-! ### glob_Match: function 11 -/
def glob_Match.f (l0 : List S33) (a1 : ByteArray) : Option Bool := if sumOk l0 ∧ a1.size ≤ 1099511627776 then some (Go.Proofs.Ythbnnlhkcaomlaa.Gl.matchP (Go.Proofs.Ythbnnlhkcaomlaa.Gl.pieces (Go.Proofs.Ythbnnlhkcaomlaa.Gl.charsOf (l0.map rnOf))) a1.data.toList) else none
theorem glob_Match.calls (A0 : Option Addr) (c0 : Nat) (l0 : List S33) (a1 : ByteArray) (r : Bool) (w : World) (hr0 : Kd.C k33 w A0 l0.length l0) (_ : l0.length ≤ c0) (h : glob_Match.f l0 a1 = some r) :
    Calls Try.prog 11 #[.slice A0 l0.length c0, .string a1] w fun e w' => e = .returned (.bool r) ∧ Below w.heap.size w w' := by
  unfold glob_Match.f at h
  split at h
  · rename_i hc
    cases h
    have := Go.Proofs.Ythbnnlhkcaomlaa.Gl.match_walk (l0.map rnOf) A0 c0 a1 w (rn_lt hr0) (rn_reads hr0) hc.1 hc.2
    rwa [List.length_map] at this
  · cases h

/-! ### whisklaw14_bare: function 15 -/
def whisklaw14_bare.f (a0 : ByteArray) : Option ((List (S33))) := some (([(⟨a0, false, false⟩ : S33)] : List (S33)))
set_option maxHeartbeats 8000000 in
set_option maxRecDepth 100000 in
theorem whisklaw14_bare.calls (a0 : ByteArray) (r : List (S33)) (w : World) (h : whisklaw14_bare.f a0 = some r) :
    Calls Try.prog 15 #[.string a0] w fun e w' => ∃ v0_ : Value, e = .returned (v0_) ∧ Kd.R k33 33 w' w.heap.size (fun _ => True) v0_ r ∧ Below w.heap.size w w' := by
  have hu33 := Try.underlying33
  have HB := Aside0.mk (Below.refl w.heap.size w)
  have H : (some (([(⟨a0, false, false⟩ : S33)] : List (S33)))) = some r := h
  clear h
  obtain ⟨y103, hy103⟩ : ∃ y_ : List (S33), y_ = (([(⟨a0, false, false⟩ : S33)] : List (S33))) := ⟨_, rfl⟩
  replace H : (some y103) = some r := by first | (rw [hy103]; with_reducible exact H) | (have H2_ := (Option.bind_some _ _).symm.trans H; rw [hy103]; with_reducible exact H2_) | (have H2_ := (Option.bind_some _ _).symm.trans H; with_reducible exact H2_) | with_reducible exact H | (rw [hy103]; exact H) | exact H
  have Ny103 := Aside0.mk hy103
  clear hy103
  obtain rfl := Option.some.inj H
  go_enter Try.func15, Try.ntmps15
  go_wp2_with (first | ((with_reducible refine gate_dst (N := 5) rfl ?_); refine Kd.R_lit k33 _ 33 ?hg (N := 5) ?hd (xs := ([(⟨a0, false, false⟩ : S33)] : List (S33))) (inner := [.string a0, .bool false, .bool false]) (ok := fun _ => True) (okp := fun _ => True) ?hr ?hp (fun _ hk => hk) trivial (Below.refl _ _) (Nat.le_refl _) (by simp) ?_; (case hd => rfl); (case hg => rfl); (case hr => first | (go_simp; done) | (go_simp; rfl)); (case hp => exact (Reps.c3 (show Kd.M k33 _ _ _ (⟨a0, false, false⟩ : S33) [.string a0, .bool false, .bool false] from (k33_mkM _ _ _ (⟨a0, false, false⟩ : S33) )) (Reps.none _ _))); intro v104 w2 ho3 hb hg_ hnew_; clear hg_ hnew_; (first | rw [← Ny103.out] at ho3 | (simp only [Int.reduceToNat] at ho3; rw [← Ny103.out] at ho3)); have n0_ := Aside0.mk (Kd.R_lower ho3 (below_size (by repeat (first | (with_reducible first | exact HB.out | apply below_alloc | apply pw_below_drewN | apply below_drew1) | exact HB.out)))); have n1_ := Aside0.mk (below_step (by repeat (first | (with_reducible first | exact HB.out | apply below_alloc | apply pw_below_drewN | apply below_drew1) | exact HB.out)) hb); clear HB; have HO105 := n0_; have HB := n1_; clear n0_ n1_; clear hb ho3))
  go_ret
  exact ⟨_, by first | rfl | (simp [errW_none, errW_some] <;> rfl) | (simp [*, errW_none, errW_some] <;> rfl), by (with_reducible repeat (first | apply Kd.R_alloc | apply Kd.R_drewN | apply Kd.R_drew)); exact HO105.out, by repeat (first | (with_reducible first | exact HB.out | apply below_alloc | apply pw_below_drewN | apply below_drew1) | exact HB.out)⟩

/-! ### whisklaw14_three: function 16 -/
def whisklaw14_three.f (a0 : ByteArray) (a1 : ByteArray) (a2 : ByteArray) : Option ((List (S33))) := some (([(⟨a0, false, false⟩ : S33), (⟨a1, true, false⟩ : S33), (⟨a2, false, false⟩ : S33)] : List (S33)))
set_option maxHeartbeats 8000000 in
set_option maxRecDepth 100000 in
theorem whisklaw14_three.calls (a0 : ByteArray) (a1 : ByteArray) (a2 : ByteArray) (r : List (S33)) (w : World) (h : whisklaw14_three.f a0 a1 a2 = some r) :
    Calls Try.prog 16 #[.string a0, .string a1, .string a2] w fun e w' => ∃ v0_ : Value, e = .returned (v0_) ∧ Kd.R k33 33 w' w.heap.size (fun _ => True) v0_ r ∧ Below w.heap.size w w' := by
  have hu33 := Try.underlying33
  have HB := Aside0.mk (Below.refl w.heap.size w)
  have H : (some (([(⟨a0, false, false⟩ : S33), (⟨a1, true, false⟩ : S33), (⟨a2, false, false⟩ : S33)] : List (S33)))) = some r := h
  clear h
  obtain ⟨y106, hy106⟩ : ∃ y_ : List (S33), y_ = (([(⟨a0, false, false⟩ : S33), (⟨a1, true, false⟩ : S33), (⟨a2, false, false⟩ : S33)] : List (S33))) := ⟨_, rfl⟩
  replace H : (some y106) = some r := by first | (rw [hy106]; with_reducible exact H) | (have H2_ := (Option.bind_some _ _).symm.trans H; rw [hy106]; with_reducible exact H2_) | (have H2_ := (Option.bind_some _ _).symm.trans H; with_reducible exact H2_) | with_reducible exact H | (rw [hy106]; exact H) | exact H
  have Ny106 := Aside0.mk hy106
  clear hy106
  obtain rfl := Option.some.inj H
  go_enter Try.func16, Try.ntmps16
  go_wp2_with (first | ((with_reducible refine gate_dst (N := 13) rfl ?_); refine Kd.R_lit k33 _ 33 ?hg (N := 13) ?hd (xs := ([(⟨a0, false, false⟩ : S33), (⟨a1, true, false⟩ : S33), (⟨a2, false, false⟩ : S33)] : List (S33))) (inner := [.string a0, .bool false, .bool false, .string a1, .bool true, .bool false, .string a2, .bool false, .bool false]) (ok := fun _ => True) (okp := fun _ => True) ?hr ?hp (fun _ hk => hk) trivial (Below.refl _ _) (Nat.le_refl _) (by simp) ?_; (case hd => rfl); (case hg => rfl); (case hr => first | (go_simp; done) | (go_simp; rfl)); (case hp => exact (Reps.c3 (show Kd.M k33 _ _ _ (⟨a0, false, false⟩ : S33) [.string a0, .bool false, .bool false] from (k33_mkM _ _ _ (⟨a0, false, false⟩ : S33) )) (Reps.c3 (show Kd.M k33 _ _ _ (⟨a1, true, false⟩ : S33) [.string a1, .bool true, .bool false] from (k33_mkM _ _ _ (⟨a1, true, false⟩ : S33) )) (Reps.c3 (show Kd.M k33 _ _ _ (⟨a2, false, false⟩ : S33) [.string a2, .bool false, .bool false] from (k33_mkM _ _ _ (⟨a2, false, false⟩ : S33) )) (Reps.none _ _))))); intro v107 w4 ho5 hb hg_ hnew_; clear hg_ hnew_; (first | rw [← Ny106.out] at ho5 | (simp only [Int.reduceToNat] at ho5; rw [← Ny106.out] at ho5)); have n0_ := Aside0.mk (Kd.R_lower ho5 (below_size (by repeat (first | (with_reducible first | exact HB.out | apply below_alloc | apply pw_below_drewN | apply below_drew1) | exact HB.out)))); have n1_ := Aside0.mk (below_step (by repeat (first | (with_reducible first | exact HB.out | apply below_alloc | apply pw_below_drewN | apply below_drew1) | exact HB.out)) hb); clear HB; have HO108 := n0_; have HB := n1_; clear n0_ n1_; clear hb ho5))
  go_ret
  exact ⟨_, by first | rfl | (simp [errW_none, errW_some] <;> rfl) | (simp [*, errW_none, errW_some] <;> rfl), by (with_reducible repeat (first | apply Kd.R_alloc | apply Kd.R_drewN | apply Kd.R_drew)); exact HO108.out, by repeat (first | (with_reducible first | exact HB.out | apply below_alloc | apply pw_below_drewN | apply below_drew1) | exact HB.out)⟩

/-! ### whisklaw14_rows: function 24 -/
mutual
def whisklaw14_rows.l0 : Nat → List (S33) → List ByteArray → List ByteArray → Int → Option (Bool)
  | 0, _, _, _, _ => none
  | k + 1, x0, x1, x2, x7 => if x7 < (x1.length : Int) then (if 0 ≤ x7 then ((glob_Match.f x0 (rdOf ByteArray.empty x1 x7)).bind fun t110 => (if t110 = true then (whisklaw14_rows.l0 k x0 x1 x2 (wrap64 (x7 + 1))) else (some false))) else (none)) else (whisklaw14_rows.l1 k x0 x2 0)
def whisklaw14_rows.l1 : Nat → List (S33) → List ByteArray → Int → Option (Bool)
  | 0, _, _, _ => none
  | k + 1, x0, x2, x8 => if x8 < (x2.length : Int) then (if 0 ≤ x8 then ((glob_Match.f x0 (rdOf ByteArray.empty x2 x8)).bind fun t112 => (if t112 = true then (some false) else (whisklaw14_rows.l1 k x0 x2 (wrap64 (x8 + 1))))) else (none)) else (some true)
end
def whisklaw14_rows.f (k : Nat) (l0 : List (S33)) (l1 : List ByteArray) (l2 : List ByteArray) : Option (Bool) := whisklaw14_rows.l0 k l0 l1 l2 0
theorem whisklaw14_rows.mono_l : ∀ k, (∀ y0 y1 y2 y3, LeO (whisklaw14_rows.l0 k y0 y1 y2 y3) (whisklaw14_rows.l0 (k + 1) y0 y1 y2 y3)) ∧ (∀ y0 y1 y2, LeO (whisklaw14_rows.l1 k y0 y1 y2) (whisklaw14_rows.l1 (k + 1) y0 y1 y2))
  | 0 => ⟨fun _ _ _ _ r h => by simp [whisklaw14_rows.l0] at h, fun _ _ _ r h => by simp [whisklaw14_rows.l1] at h⟩
  | k + 1 => by
    obtain ⟨ih0, ih1⟩ := whisklaw14_rows.mono_l k
    refine ⟨?_, ?_⟩
    · intro y0 y1 y2 y3
      unfold whisklaw14_rows.l0
      repeat' first
      | (with_reducible exact ih0 _ _ _ _)
      | (with_reducible exact ih1 _ _ _)
      | (with_reducible exact LeO.refl _)
      | (with_reducible exact LeO.none _)
      | (with_reducible refine LeO.ite ?_ ?_)
      | (with_reducible refine LeO.bind ?_ (fun _ => ?_))
      | exact ih0 _ _ _ _
      | exact ih1 _ _ _
      | exact LeO.none _
      | refine LeO.ite ?_ ?_
      | refine LeO.bind ?_ (fun _ => ?_)
    · intro y0 y1 y2
      unfold whisklaw14_rows.l1
      repeat' first
      | (with_reducible exact ih0 _ _ _ _)
      | (with_reducible exact ih1 _ _ _)
      | (with_reducible exact LeO.refl _)
      | (with_reducible exact LeO.none _)
      | (with_reducible refine LeO.ite ?_ ?_)
      | (with_reducible refine LeO.bind ?_ (fun _ => ?_))
      | exact ih0 _ _ _ _
      | exact ih1 _ _ _
      | exact LeO.none _
      | refine LeO.ite ?_ ?_
      | refine LeO.bind ?_ (fun _ => ?_)
theorem whisklaw14_rows.mono : ∀ a0 a1 a2 k, LeO (whisklaw14_rows.f k a0 a1 a2) (whisklaw14_rows.f (k + 1) a0 a1 a2) := by
  intro a0 a1 a2 k
  obtain ⟨ih0, ih1⟩ := whisklaw14_rows.mono_l k
  unfold whisklaw14_rows.f
  repeat' first
      | (with_reducible exact ih0 _ _ _ _)
      | (with_reducible exact ih1 _ _ _)
      | (with_reducible exact LeO.refl _)
      | (with_reducible exact LeO.none _)
      | (with_reducible refine LeO.ite ?_ ?_)
      | (with_reducible refine LeO.bind ?_ (fun _ => ?_))
      | exact ih0 _ _ _ _
      | exact ih1 _ _ _
      | exact LeO.none _
      | refine LeO.ite ?_ ?_
      | refine LeO.bind ?_ (fun _ => ?_)
set_option maxHeartbeats 8000000 in
set_option maxRecDepth 100000 in
theorem whisklaw14_rows.calls (k : Nat) (A0 : Option Addr) (c0 : Nat) (l0 : List (S33)) (A1 : Option Addr) (c1 : Nat) (l1 : List ByteArray) (A2 : Option Addr) (c2 : Nat) (l2 : List ByteArray) (r : Bool) (w : World) (hr0 : Kd.C k33 w A0 l0.length l0) (hc0 : l0.length ≤ c0) (hr1 : Kd.C Kd.string w A1 l1.length l1) (hc1 : l1.length ≤ c1) (hr2 : Kd.C Kd.string w A2 l2.length l2) (hc2 : l2.length ≤ c2) (h : whisklaw14_rows.f k l0 l1 l2 = some r) :
    Calls Try.prog 24 #[.slice A0 l0.length c0, .slice A1 l1.length c1, .slice A2 l2.length c2] w fun e w' => e = .returned (.bool r) ∧ Below w.heap.size w w' := by
  have HR0 := Aside0.mk hr0
  have HC0 := Aside0.mk hc0
  clear hr0 hc0
  have HR1 := Aside0.mk hr1
  have HC1 := Aside0.mk hc1
  clear hr1 hc1
  have HR2 := Aside0.mk hr2
  have HC2 := Aside0.mk hc2
  clear hr2 hc2
  have HB := Aside0.mk (Below.refl w.heap.size w)
  have H : (whisklaw14_rows.l0 k l0 l1 l2 0) = some r := h
  clear h
  have H' := Aside0.mk H
  clear H
  go_enter Try.func24, Try.ntmps24
  go_wp2
  go_loopg [7] k (fun kq v7 w' => ∃ (x7_1 : Int), v7 = .int .i64 x7_1 ∧ Aside0 (whisklaw14_rows.l0 kq l0 l1 l2 x7_1 = some r) ∧ Aside0 (kq ≤ k) ∧ Aside0 (Below w.heap.size w w'))
  case atStart => exact ⟨(0), (by first | rfl | (simp; done) | (simp [*]; done)), H', ⟨Nat.le_refl _⟩, ⟨by repeat (first | (with_reducible first | exact HB.out | apply below_alloc | apply pw_below_drewN | apply below_drew1) | exact HB.out)⟩⟩
  case round =>
    clear H'
    try clear c1
    try clear c2
    try clear p2
    obtain ⟨x7_1, rfl, HA, HK1, HB⟩ := hrel
    cases gk with
    | zero => exact absurd HA.out (by simp [whisklaw14_rows.l0])
    | succ k1 =>
      have H := HA.out
      clear HA
      simp only [whisklaw14_rows.l0] at H
      by_cases c4 : x7_1 < (l1.length : Int)
      · rw [if_pos c4] at H
        have c4b0 : decide (x7_1 < (l1.length : Int)) = true := decide_eq_true c4
        clear c4
        by_cases c5 : 0 ≤ x7_1
        · rw [if_pos c5] at H
          have c5b0 : decide (0 ≤ x7_1) = true := decide_eq_true c5
          clear c5
          replace H := Option.bind_eq_some_iff.mp H
          obtain ⟨t110, A60, H⟩ := H
          replace H : (if t110 = true then (whisklaw14_rows.l0 k1 l0 l1 l2 (wrap64 (x7_1 + 1))) else (some false)) = some r := H
          have A6 := Aside0.mk A60
          clear A60
          by_cases c7 : t110 = true
          · subst c7
            have H1 : (whisklaw14_rows.l0 k1 l0 l1 l2 (wrap64 (x7_1 + 1))) = some r := by rw [if_pos rfl] at H; exact H
            clear H
            have H := H1
            clear H1
            have H' := Aside0.mk H
            clear H
            have p109 : 0 ≤ (x7_1 : Int) := of_decide_eq_true (by first | (with_reducible assumption) | assumption)
            have q109 : x7_1 < (l1.length : Int) := of_decide_eq_true (by first | (with_reducible assumption) | assumption)
            obtain ⟨ad109, e109, hx109_0⟩ := Kd.at_string HR1.out x7_1 p109 q109
            cases e109
            replace hx109_0 := (HB.out.cell (World.block_lt_of_cell? w _ hx109_0)).trans hx109_0
            replace p109 := eq_true p109
            replace q109 := eq_true q109
            go_wp2_with (first | ((with_reducible refine gate_callee (f := 11) rfl ?_); refine goesL_ (some 20) rfl rfl Try.func11 (by kernel_rfl) rfl #[.slice A0 l0.length c0, .string (rdOf ByteArray.empty l1 x7_1)] rfl (by (try simp only [List.map_toArray, List.map_cons, List.map_nil]); first | done | rfl | (simp only [List.length_drop, List.length_take]; rfl)) ?_; (with_reducible refine (glob_Match.calls _ _ l0 (rdOf ByteArray.empty l1 x7_1) true _ ?side1 ?side2 A6.out).mono ?_); (case side1 => repeat (first | exact (Kd.C_below HR0.out HB.out) | (with_reducible refine Kd.C_alloc ?_ _) | (with_reducible refine Kd.C_drewN ?_ _) | (with_reducible refine Kd.C_drew ?_))); (case side2 => exact HC0.out); rintro e w8 ⟨rfl, hb⟩; refine ⟨_, rfl, ?_⟩; have n0_ := Aside0.mk (below_step (by repeat (first | (with_reducible first | exact HB.out | apply below_alloc | apply pw_below_drewN | apply below_drew1) | exact HB.out)) hb); clear HB; have HB := n0_; clear n0_; (try clear hb); (try clear hb2); (try clear hk); (try clear hi)))
            go_roundg k1
            case measure => have := HK1.out; omega
            case rel => exact ⟨(wrap64 (x7_1 + 1)), (by first | rfl | (simp; done) | (simp [*]; done)), H', ⟨by have := HK1.out; omega⟩, ⟨by repeat (first | (with_reducible first | exact HB.out | apply below_alloc | apply pw_below_drewN | apply below_drew1) | exact HB.out)⟩⟩
          · replace c7 := Bool.eq_false_iff.mpr c7
            subst c7
            have H1 : (some false) = some r := by rw [if_neg (show ¬ (false = true) by decide)] at H; exact H
            clear H
            have H := H1
            clear H1
            obtain rfl := Option.some.inj H
            have p109 : 0 ≤ (x7_1 : Int) := of_decide_eq_true (by first | (with_reducible assumption) | assumption)
            have q109 : x7_1 < (l1.length : Int) := of_decide_eq_true (by first | (with_reducible assumption) | assumption)
            obtain ⟨ad109, e109, hx109_0⟩ := Kd.at_string HR1.out x7_1 p109 q109
            cases e109
            replace hx109_0 := (HB.out.cell (World.block_lt_of_cell? w _ hx109_0)).trans hx109_0
            replace p109 := eq_true p109
            replace q109 := eq_true q109
            go_wp2_with (first | ((with_reducible refine gate_callee (f := 11) rfl ?_); refine goesL_ (some 20) rfl rfl Try.func11 (by kernel_rfl) rfl #[.slice A0 l0.length c0, .string (rdOf ByteArray.empty l1 x7_1)] rfl (by (try simp only [List.map_toArray, List.map_cons, List.map_nil]); first | done | rfl | (simp only [List.length_drop, List.length_take]; rfl)) ?_; (with_reducible refine (glob_Match.calls _ _ l0 (rdOf ByteArray.empty l1 x7_1) false _ ?side1 ?side2 A6.out).mono ?_); (case side1 => repeat (first | exact (Kd.C_below HR0.out HB.out) | (with_reducible refine Kd.C_alloc ?_ _) | (with_reducible refine Kd.C_drewN ?_ _) | (with_reducible refine Kd.C_drew ?_))); (case side2 => exact HC0.out); rintro e w9 ⟨rfl, hb⟩; refine ⟨_, rfl, ?_⟩; have n0_ := Aside0.mk (below_step (by repeat (first | (with_reducible first | exact HB.out | apply below_alloc | apply pw_below_drewN | apply below_drew1) | exact HB.out)) hb); clear HB; have HB := n0_; clear n0_; (try clear hb); (try clear hb2); (try clear hk); (try clear hi)))
            go_ret
            exact ⟨by first | rfl | (simp [errW_none, errW_some] <;> rfl) | (simp [*, errW_none, errW_some] <;> rfl), by repeat (first | (with_reducible first | exact HB.out | apply below_alloc | apply pw_below_drewN | apply below_drew1) | exact HB.out)⟩
        · rw [if_neg c5] at H
          exact absurd H (by simp)
      · rw [if_neg c4] at H
        have c4b0 : decide (x7_1 < (l1.length : Int)) = false := decide_eq_false c4
        clear c4
        have H' := Aside0.mk H
        clear H
        go_wp2
        go_loopg [8] k1 (fun kq v8 w' => ∃ (x8_2 : Int), v8 = .int .i64 x8_2 ∧ Aside0 (whisklaw14_rows.l1 kq l0 l2 x8_2 = some r) ∧ Aside0 (kq ≤ k1) ∧ Aside0 (Below w.heap.size w w'))
        case atStart => exact ⟨(0), (by first | rfl | (simp; done) | (simp [*]; done)), H', ⟨Nat.le_refl _⟩, ⟨by repeat (first | (with_reducible first | exact HB.out | apply below_alloc | apply pw_below_drewN | apply below_drew1) | exact HB.out)⟩⟩
        case round =>
          clear H'
          try clear c1
          try clear p1
          try clear q1
          try clear hx1
          try clear c2
          try clear p2
          try clear c4
          try clear c4b0
          try clear c5
          try clear c5b0
          try clear p6
          try clear c7
          try clear hx109_0
          try clear p109
          try clear p2
          try clear q109
          obtain ⟨x8_2, rfl, HA, HK2, HB⟩ := hrel
          cases gk with
          | zero => exact absurd HA.out (by simp [whisklaw14_rows.l1])
          | succ k2 =>
            have H := HA.out
            clear HA
            simp only [whisklaw14_rows.l1] at H
            by_cases c10 : x8_2 < (l2.length : Int)
            · rw [if_pos c10] at H
              have c10b0 : decide (x8_2 < (l2.length : Int)) = true := decide_eq_true c10
              clear c10
              by_cases c11 : 0 ≤ x8_2
              · rw [if_pos c11] at H
                have c11b0 : decide (0 ≤ x8_2) = true := decide_eq_true c11
                clear c11
                replace H := Option.bind_eq_some_iff.mp H
                obtain ⟨t112, A120, H⟩ := H
                replace H : (if t112 = true then (some false) else (whisklaw14_rows.l1 k2 l0 l2 (wrap64 (x8_2 + 1)))) = some r := H
                have A12 := Aside0.mk A120
                clear A120
                by_cases c13 : t112 = true
                · subst c13
                  have H1 : (some false) = some r := by rw [if_pos rfl] at H; exact H
                  clear H
                  have H := H1
                  clear H1
                  obtain rfl := Option.some.inj H
                  have p111 : 0 ≤ (x8_2 : Int) := of_decide_eq_true (by first | (with_reducible assumption) | assumption)
                  have q111 : x8_2 < (l2.length : Int) := of_decide_eq_true (by first | (with_reducible assumption) | assumption)
                  obtain ⟨ad111, e111, hx111_0⟩ := Kd.at_string HR2.out x8_2 p111 q111
                  cases e111
                  replace hx111_0 := (HB.out.cell (World.block_lt_of_cell? w _ hx111_0)).trans hx111_0
                  replace p111 := eq_true p111
                  replace q111 := eq_true q111
                  go_wp2_with (first | ((with_reducible refine gate_callee (f := 11) rfl ?_); refine goesL_ (some 33) rfl rfl Try.func11 (by kernel_rfl) rfl #[.slice A0 l0.length c0, .string (rdOf ByteArray.empty l2 x8_2)] rfl (by (try simp only [List.map_toArray, List.map_cons, List.map_nil]); first | done | rfl | (simp only [List.length_drop, List.length_take]; rfl)) ?_; (with_reducible refine (glob_Match.calls _ _ l0 (rdOf ByteArray.empty l2 x8_2) true _ ?side1 ?side2 A12.out).mono ?_); (case side1 => repeat (first | exact (Kd.C_below HR0.out HB.out) | (with_reducible refine Kd.C_alloc ?_ _) | (with_reducible refine Kd.C_drewN ?_ _) | (with_reducible refine Kd.C_drew ?_))); (case side2 => exact HC0.out); rintro e w14 ⟨rfl, hb⟩; refine ⟨_, rfl, ?_⟩; have n0_ := Aside0.mk (below_step (by repeat (first | (with_reducible first | exact HB.out | apply below_alloc | apply pw_below_drewN | apply below_drew1) | exact HB.out)) hb); clear HB; have HB := n0_; clear n0_; (try clear hb); (try clear hb2); (try clear hk); (try clear hi)))
                  go_ret
                  exact ⟨by first | rfl | (simp [errW_none, errW_some] <;> rfl) | (simp [*, errW_none, errW_some] <;> rfl), by repeat (first | (with_reducible first | exact HB.out | apply below_alloc | apply pw_below_drewN | apply below_drew1) | exact HB.out)⟩
                · replace c13 := Bool.eq_false_iff.mpr c13
                  subst c13
                  have H1 : (whisklaw14_rows.l1 k2 l0 l2 (wrap64 (x8_2 + 1))) = some r := by rw [if_neg (show ¬ (false = true) by decide)] at H; exact H
                  clear H
                  have H := H1
                  clear H1
                  have H' := Aside0.mk H
                  clear H
                  have p111 : 0 ≤ (x8_2 : Int) := of_decide_eq_true (by first | (with_reducible assumption) | assumption)
                  have q111 : x8_2 < (l2.length : Int) := of_decide_eq_true (by first | (with_reducible assumption) | assumption)
                  obtain ⟨ad111, e111, hx111_0⟩ := Kd.at_string HR2.out x8_2 p111 q111
                  cases e111
                  replace hx111_0 := (HB.out.cell (World.block_lt_of_cell? w _ hx111_0)).trans hx111_0
                  replace p111 := eq_true p111
                  replace q111 := eq_true q111
                  go_wp2_with (first | ((with_reducible refine gate_callee (f := 11) rfl ?_); refine goesL_ (some 33) rfl rfl Try.func11 (by kernel_rfl) rfl #[.slice A0 l0.length c0, .string (rdOf ByteArray.empty l2 x8_2)] rfl (by (try simp only [List.map_toArray, List.map_cons, List.map_nil]); first | done | rfl | (simp only [List.length_drop, List.length_take]; rfl)) ?_; (with_reducible refine (glob_Match.calls _ _ l0 (rdOf ByteArray.empty l2 x8_2) false _ ?side1 ?side2 A12.out).mono ?_); (case side1 => repeat (first | exact (Kd.C_below HR0.out HB.out) | (with_reducible refine Kd.C_alloc ?_ _) | (with_reducible refine Kd.C_drewN ?_ _) | (with_reducible refine Kd.C_drew ?_))); (case side2 => exact HC0.out); rintro e w15 ⟨rfl, hb⟩; refine ⟨_, rfl, ?_⟩; have n0_ := Aside0.mk (below_step (by repeat (first | (with_reducible first | exact HB.out | apply below_alloc | apply pw_below_drewN | apply below_drew1) | exact HB.out)) hb); clear HB; have HB := n0_; clear n0_; (try clear hb); (try clear hb2); (try clear hk); (try clear hi)))
                  go_roundg k2
                  case measure => have := HK1.out; have := HK2.out; omega
                  case rel => exact ⟨(wrap64 (x8_2 + 1)), (by first | rfl | (simp; done) | (simp [*]; done)), H', ⟨by have := HK1.out; have := HK2.out; omega⟩, ⟨by repeat (first | (with_reducible first | exact HB.out | apply below_alloc | apply pw_below_drewN | apply below_drew1) | exact HB.out)⟩⟩
              · rw [if_neg c11] at H
                exact absurd H (by simp)
            · rw [if_neg c10] at H
              have c10b0 : decide (x8_2 < (l2.length : Int)) = false := decide_eq_false c10
              clear c10
              obtain rfl := Option.some.inj H
              go_wp2
              go_ret
              exact ⟨by first | rfl | (simp [errW_none, errW_some] <;> rfl) | (simp [*, errW_none, errW_some] <;> rfl), by repeat (first | (with_reducible first | exact HB.out | apply below_alloc | apply pw_below_drewN | apply below_drew1) | exact HB.out)⟩

/-! ### whisklaw14_works: function 13 -/
def whisklaw14_works.f : Option Bool := some true
theorem whisklaw14_works.calls (r : Bool) (w : World) (h : whisklaw14_works.f = some r) :
    Calls Try.prog 13 #[] w fun e w' => e = .returned (.bool r) ∧ Below w.heap.size w w' := by
  obtain rfl := Option.some.inj h
  exact Go.Proofs.Ythbnnlhkcaomlaa.Gl.works_walk w

/-! ### stringslite_HasPrefix: function 30 -/
def stringslite_HasPrefix.f (a0 : ByteArray) (a1 : ByteArray) : Option (Bool) := if (a0.size : Int) ≥ (a1.size : Int) then (if 0 ≤ (a1.size : Int) then (if (a1.size : Int) ≤ (a0.size : Int) then (some ((a0.extract 0 ((a1.size : Int) : Int).toNat).toList == a1.toList)) else (none)) else (none)) else (some false)
set_option maxHeartbeats 8000000 in
set_option maxRecDepth 100000 in
theorem stringslite_HasPrefix.calls (a0 : ByteArray) (a1 : ByteArray) (r : Bool) (w : World) (h : stringslite_HasPrefix.f a0 a1 = some r) :
    Calls Try.prog 30 #[.string a0, .string a1] w fun e w' => e = .returned (.bool r) ∧ Drawn0 w w' := by
  have H : (if (a0.size : Int) ≥ (a1.size : Int) then (if 0 ≤ (a1.size : Int) then (if (a1.size : Int) ≤ (a0.size : Int) then (some ((a0.extract 0 ((a1.size : Int) : Int).toNat).toList == a1.toList)) else (none)) else (none)) else (some false)) = some r := h
  clear h
  by_cases c3 : (a0.size : Int) ≥ (a1.size : Int)
  · rw [if_pos c3] at H
    have c3b0 : decide ((a1.size : Int) ≤ (a0.size : Int)) = true := decide_eq_true c3
    have c3b1 : decide (a1.size ≤ a0.size) = true := decide_eq_true (Int.ofNat_le.mp c3)
    clear c3
    by_cases c4 : 0 ≤ (a1.size : Int)
    · rw [if_pos c4] at H
      have c4b0 := eq_true c4
      have c4b1 : decide (0 ≤ (a1.size : Int)) = true := decide_eq_true c4
      clear c4
      by_cases c5 : (a1.size : Int) ≤ (a0.size : Int)
      · rw [if_pos c5] at H
        have c5b0 := eq_true c5
        have c5b1 : decide ((a1.size : Int) ≤ (a0.size : Int)) = true := decide_eq_true c5
        clear c5
        obtain rfl := Option.some.inj H
        go_enter Try.func30, Try.ntmps30
        go_wp2
        go_ret
        exact ⟨by first | rfl | (simp; done) | (simp [*]; done), by repeat (first | exact Drawn0.refl _ | apply Drawn0.step)⟩
      · rw [if_neg c5] at H
        exact absurd H (by simp)
    · rw [if_neg c4] at H
      exact absurd H (by simp)
  · rw [if_neg c3] at H
    have c3b0 : decide ((a1.size : Int) ≤ (a0.size : Int)) = false := decide_eq_false c3
    have c3b1 : decide (a1.size ≤ a0.size) = false := decide_eq_false (fun h => c3 (Int.ofNat_le.mpr h))
    clear c3
    obtain rfl := Option.some.inj H
    go_enter Try.func30, Try.ntmps30
    go_wp2
    go_ret
    exact ⟨by first | rfl | (simp; done) | (simp [*]; done), by repeat (first | exact Drawn0.refl _ | apply Drawn0.step)⟩

/-! ### strings_HasPrefix: function 17 -/
def strings_HasPrefix.f (a0 a1 : ByteArray) : Option Bool := some (Lib.hasPrefix a0.data.toList a1.data.toList)
theorem strings_HasPrefix.calls (a0 a1 : ByteArray) (r : Bool) (w : World) (h : strings_HasPrefix.f a0 a1 = some r) :
    Calls Try.prog 17 #[.string a0, .string a1] w fun e w' => e = .returned (.bool r) ∧ Below w.heap.size w w' := by
  obtain rfl := Option.some.inj h
  exact (Try.strings_HasPrefix a0 a1 w).mono fun e w' ⟨h1, h2⟩ => ⟨h1, by rw [h2]; exact Below.refl _ _⟩

/-! ### stringslite_HasSuffix: function 31 -/
def stringslite_HasSuffix.f (a0 : ByteArray) (a1 : ByteArray) : Option (Bool) := if (a0.size : Int) ≥ (a1.size : Int) then (if 0 ≤ (wrap64 ((a0.size : Int) - (a1.size : Int))) then (if (wrap64 ((a0.size : Int) - (a1.size : Int))) ≤ (a0.size : Int) then (some ((a0.extract ((wrap64 ((a0.size : Int) - (a1.size : Int))) : Int).toNat a0.size).toList == a1.toList)) else (none)) else (none)) else (some false)
set_option maxHeartbeats 8000000 in
set_option maxRecDepth 100000 in
theorem stringslite_HasSuffix.calls (a0 : ByteArray) (a1 : ByteArray) (r : Bool) (w : World) (h : stringslite_HasSuffix.f a0 a1 = some r) :
    Calls Try.prog 31 #[.string a0, .string a1] w fun e w' => e = .returned (.bool r) ∧ Drawn0 w w' := by
  have H : (if (a0.size : Int) ≥ (a1.size : Int) then (if 0 ≤ (wrap64 ((a0.size : Int) - (a1.size : Int))) then (if (wrap64 ((a0.size : Int) - (a1.size : Int))) ≤ (a0.size : Int) then (some ((a0.extract ((wrap64 ((a0.size : Int) - (a1.size : Int))) : Int).toNat a0.size).toList == a1.toList)) else (none)) else (none)) else (some false)) = some r := h
  clear h
  by_cases c3 : (a0.size : Int) ≥ (a1.size : Int)
  · rw [if_pos c3] at H
    have c3b0 : decide ((a1.size : Int) ≤ (a0.size : Int)) = true := decide_eq_true c3
    have c3b1 : decide (a1.size ≤ a0.size) = true := decide_eq_true (Int.ofNat_le.mp c3)
    clear c3
    obtain ⟨ji4, hji4⟩ : ∃ j_ : Int, (wrap64 ((a0.size : Int) - (a1.size : Int))) = j_ := ⟨_, rfl⟩
    replace H : (if 0 ≤ (ji4) then (if (ji4) ≤ (a0.size : Int) then (some ((a0.extract ((ji4) : Int).toNat a0.size).toList == a1.toList)) else (none)) else (none)) = some r := by first | (rw [hji4] at H; exact H) | (simp only [hji4] at H ⊢; exact H)
    have hji4w : (IntKind.i64.wrap ((a0.size : Int) - (a1.size : Int))) = ji4 := (i64_w _).trans hji4
    by_cases c5 : 0 ≤ (ji4)
    · rw [if_pos c5] at H
      have c5b0 := eq_true c5
      have c5b1 : decide (0 ≤ (ji4)) = true := decide_eq_true c5
      clear c5
      by_cases c6 : (ji4) ≤ (a0.size : Int)
      · rw [if_pos c6] at H
        have c6b0 := eq_true c6
        have c6b1 : decide ((ji4) ≤ (a0.size : Int)) = true := decide_eq_true c6
        clear c6
        obtain rfl := Option.some.inj H
        go_enter Try.func31, Try.ntmps31
        go_wp2
        go_ret
        exact ⟨by first | rfl | (simp; done) | (simp only [← hji4] <;> (first | rfl | simp)) | (simp [*]; done), by repeat (first | exact Drawn0.refl _ | apply Drawn0.step)⟩
      · rw [if_neg c6] at H
        exact absurd H (by simp)
    · rw [if_neg c5] at H
      exact absurd H (by simp)
  · rw [if_neg c3] at H
    have c3b0 : decide ((a1.size : Int) ≤ (a0.size : Int)) = false := decide_eq_false c3
    have c3b1 : decide (a1.size ≤ a0.size) = false := decide_eq_false (fun h => c3 (Int.ofNat_le.mpr h))
    clear c3
    obtain rfl := Option.some.inj H
    go_enter Try.func31, Try.ntmps31
    go_wp2
    go_ret
    exact ⟨by first | rfl | (simp; done) | (simp [*]; done), by repeat (first | exact Drawn0.refl _ | apply Drawn0.step)⟩

/-! ### strings_HasSuffix: function 18 -/
def strings_HasSuffix.f (a0 a1 : ByteArray) : Option Bool := if a0.size ≤ 9223372036854775807 then some (Lib.hasSuffix a0.data.toList a1.data.toList) else none
theorem strings_HasSuffix.calls (a0 a1 : ByteArray) (r : Bool) (w : World) (h : strings_HasSuffix.f a0 a1 = some r) :
    Calls Try.prog 18 #[.string a0, .string a1] w fun e w' => e = .returned (.bool r) ∧ Below w.heap.size w w' := by
  unfold strings_HasSuffix.f at h
  split at h
  · obtain rfl := Option.some.inj h
    exact (Try.strings_HasSuffix a0 a1 w (by assumption)).mono fun e w' ⟨h1, h2⟩ => ⟨h1, by rw [h2]; exact Below.refl _ _⟩
  · cases h

-- NOT PRINTED: function 48 (glob_piece_48)

-- NOT PRINTED: function 32 (glob_piece_32)

/-! ### glob_Magic: function 19 -/
def glob_Magic.f (l0 : List S33) : Option Bool := if sumOk l0 then some ((Go.Proofs.Ythbnnlhkcaomlaa.Gl.pieces (Go.Proofs.Ythbnnlhkcaomlaa.Gl.charsOf (l0.map rnOf))).any Go.Proofs.Ythbnnlhkcaomlaa.Gl.Piece.odd) else none
theorem glob_Magic.calls (A0 : Option Addr) (c0 : Nat) (l0 : List S33) (r : Bool) (w : World) (hr0 : Kd.C k33 w A0 l0.length l0) (_ : l0.length ≤ c0) (h : glob_Magic.f l0 = some r) :
    Calls Try.prog 19 #[.slice A0 l0.length c0] w fun e w' => e = .returned (.bool r) ∧ Below w.heap.size w w' := by
  unfold glob_Magic.f at h
  split at h
  · rename_i hc
    cases h
    have := Go.Proofs.Ythbnnlhkcaomlaa.Gl.magic_walk (l0.map rnOf) A0 c0 w (rn_lt hr0) (rn_reads hr0) hc
    rwa [List.length_map] at this
  · cases h

/-! ### whisklaw14_GlobStar: function 5 -/
def whisklaw14_GlobStar.f (a0 : ByteArray) (a1 : ByteArray) (a2 : ByteArray) : Option (Bool) := (whisklaw14_works.f).bind fun t113 => (if t113 = true then (if 0 ≤ (mn (a0.size : Int) 10) then (if (mn (a0.size : Int) 10) ≤ (a0.size : Int) then (if 0 ≤ (mn (a1.size : Int) 10) then (if (mn (a1.size : Int) 10) ≤ (a1.size : Int) then (if 0 ≤ (mn (a2.size : Int) 30) then (if (mn (a2.size : Int) 30) ≤ (a2.size : Int) then ((some (([(⟨a0.extract 0 ((mn (a0.size : Int) 10) : Int).toNat, true, false⟩ : S33), (⟨(⟨#[42]⟩ : ByteArray), false, false⟩ : S33), (⟨a1.extract 0 ((mn (a1.size : Int) 10) : Int).toNat, true, false⟩ : S33)] : List (S33)) : List (S33))).bind fun y114 => (if ((a2.extract 0 ((mn (a2.size : Int) 30) : Int).toNat).size : Int) ≥ (wrap64 (((a0.extract 0 ((mn (a0.size : Int) 10) : Int).toNat).size : Int) + ((a1.extract 0 ((mn (a1.size : Int) 10) : Int).toNat).size : Int))) then ((strings_HasPrefix.f (a2.extract 0 ((mn (a2.size : Int) 30) : Int).toNat) (a0.extract 0 ((mn (a0.size : Int) 10) : Int).toNat)).bind fun t117 => (if t117 = true then ((strings_HasSuffix.f (a2.extract 0 ((mn (a2.size : Int) 30) : Int).toNat) (a1.extract 0 ((mn (a1.size : Int) 10) : Int).toNat)).bind fun t118 => ((glob_Match.f y114 (a2.extract 0 ((mn (a2.size : Int) 30) : Int).toNat)).bind fun t119 => (if (t119 == t118) = true then (if (a0.extract 0 ((mn (a0.size : Int) 10) : Int).toNat).size + (a2.extract 0 ((mn (a2.size : Int) 30) : Int).toNat).size ≤ 9223372036854775807 then (if ((a0.extract 0 ((mn (a0.size : Int) 10) : Int).toNat) ++ (a2.extract 0 ((mn (a2.size : Int) 30) : Int).toNat)).size + (a1.extract 0 ((mn (a1.size : Int) 10) : Int).toNat).size ≤ 9223372036854775807 then ((glob_Match.f y114 (((a0.extract 0 ((mn (a0.size : Int) 10) : Int).toNat) ++ (a2.extract 0 ((mn (a2.size : Int) 30) : Int).toNat)) ++ (a1.extract 0 ((mn (a1.size : Int) 10) : Int).toNat))).bind fun t120 => (if t120 = true then ((glob_Magic.f y114).bind fun t121 => (some t121)) else (some false))) else (none)) else (none)) else (some false)))) else ((glob_Match.f y114 (a2.extract 0 ((mn (a2.size : Int) 30) : Int).toNat)).bind fun t122 => (if (t122 == false) = true then (if (a0.extract 0 ((mn (a0.size : Int) 10) : Int).toNat).size + (a2.extract 0 ((mn (a2.size : Int) 30) : Int).toNat).size ≤ 9223372036854775807 then (if ((a0.extract 0 ((mn (a0.size : Int) 10) : Int).toNat) ++ (a2.extract 0 ((mn (a2.size : Int) 30) : Int).toNat)).size + (a1.extract 0 ((mn (a1.size : Int) 10) : Int).toNat).size ≤ 9223372036854775807 then ((glob_Match.f y114 (((a0.extract 0 ((mn (a0.size : Int) 10) : Int).toNat) ++ (a2.extract 0 ((mn (a2.size : Int) 30) : Int).toNat)) ++ (a1.extract 0 ((mn (a1.size : Int) 10) : Int).toNat))).bind fun t123 => (if t123 = true then ((glob_Magic.f y114).bind fun t124 => (some t124)) else (some false))) else (none)) else (none)) else (some false))))) else ((glob_Match.f y114 (a2.extract 0 ((mn (a2.size : Int) 30) : Int).toNat)).bind fun t125 => (if (t125 == false) = true then (if (a0.extract 0 ((mn (a0.size : Int) 10) : Int).toNat).size + (a2.extract 0 ((mn (a2.size : Int) 30) : Int).toNat).size ≤ 9223372036854775807 then (if ((a0.extract 0 ((mn (a0.size : Int) 10) : Int).toNat) ++ (a2.extract 0 ((mn (a2.size : Int) 30) : Int).toNat)).size + (a1.extract 0 ((mn (a1.size : Int) 10) : Int).toNat).size ≤ 9223372036854775807 then ((glob_Match.f y114 (((a0.extract 0 ((mn (a0.size : Int) 10) : Int).toNat) ++ (a2.extract 0 ((mn (a2.size : Int) 30) : Int).toNat)) ++ (a1.extract 0 ((mn (a1.size : Int) 10) : Int).toNat))).bind fun t126 => (if t126 = true then ((glob_Magic.f y114).bind fun t127 => (some t127)) else (some false))) else (none)) else (none)) else (some false))))) else (none)) else (none)) else (none)) else (none)) else (none)) else (none)) else (some false))
set_option maxHeartbeats 8000000 in
set_option maxRecDepth 100000 in
theorem whisklaw14_GlobStar.calls (a0 : ByteArray) (a1 : ByteArray) (a2 : ByteArray) (r : Bool) (w : World) (h : whisklaw14_GlobStar.f a0 a1 a2 = some r) :
    Calls Try.prog 5 #[.string a0, .string a1, .string a2] w fun e w' => e = .returned (.bool r) ∧ Below w.heap.size w w' := by
  have hu33 := Try.underlying33
  have HB := Aside0.mk (Below.refl w.heap.size w)
  have H : ((whisklaw14_works.f).bind fun t113 => (if t113 = true then (if 0 ≤ (mn (a0.size : Int) 10) then (if (mn (a0.size : Int) 10) ≤ (a0.size : Int) then (if 0 ≤ (mn (a1.size : Int) 10) then (if (mn (a1.size : Int) 10) ≤ (a1.size : Int) then (if 0 ≤ (mn (a2.size : Int) 30) then (if (mn (a2.size : Int) 30) ≤ (a2.size : Int) then ((some (([(⟨a0.extract 0 ((mn (a0.size : Int) 10) : Int).toNat, true, false⟩ : S33), (⟨(⟨#[42]⟩ : ByteArray), false, false⟩ : S33), (⟨a1.extract 0 ((mn (a1.size : Int) 10) : Int).toNat, true, false⟩ : S33)] : List (S33)) : List (S33))).bind fun y114 => (if ((a2.extract 0 ((mn (a2.size : Int) 30) : Int).toNat).size : Int) ≥ (wrap64 (((a0.extract 0 ((mn (a0.size : Int) 10) : Int).toNat).size : Int) + ((a1.extract 0 ((mn (a1.size : Int) 10) : Int).toNat).size : Int))) then ((strings_HasPrefix.f (a2.extract 0 ((mn (a2.size : Int) 30) : Int).toNat) (a0.extract 0 ((mn (a0.size : Int) 10) : Int).toNat)).bind fun t117 => (if t117 = true then ((strings_HasSuffix.f (a2.extract 0 ((mn (a2.size : Int) 30) : Int).toNat) (a1.extract 0 ((mn (a1.size : Int) 10) : Int).toNat)).bind fun t118 => ((glob_Match.f y114 (a2.extract 0 ((mn (a2.size : Int) 30) : Int).toNat)).bind fun t119 => (if (t119 == t118) = true then (if (a0.extract 0 ((mn (a0.size : Int) 10) : Int).toNat).size + (a2.extract 0 ((mn (a2.size : Int) 30) : Int).toNat).size ≤ 9223372036854775807 then (if ((a0.extract 0 ((mn (a0.size : Int) 10) : Int).toNat) ++ (a2.extract 0 ((mn (a2.size : Int) 30) : Int).toNat)).size + (a1.extract 0 ((mn (a1.size : Int) 10) : Int).toNat).size ≤ 9223372036854775807 then ((glob_Match.f y114 (((a0.extract 0 ((mn (a0.size : Int) 10) : Int).toNat) ++ (a2.extract 0 ((mn (a2.size : Int) 30) : Int).toNat)) ++ (a1.extract 0 ((mn (a1.size : Int) 10) : Int).toNat))).bind fun t120 => (if t120 = true then ((glob_Magic.f y114).bind fun t121 => (some t121)) else (some false))) else (none)) else (none)) else (some false)))) else ((glob_Match.f y114 (a2.extract 0 ((mn (a2.size : Int) 30) : Int).toNat)).bind fun t122 => (if (t122 == false) = true then (if (a0.extract 0 ((mn (a0.size : Int) 10) : Int).toNat).size + (a2.extract 0 ((mn (a2.size : Int) 30) : Int).toNat).size ≤ 9223372036854775807 then (if ((a0.extract 0 ((mn (a0.size : Int) 10) : Int).toNat) ++ (a2.extract 0 ((mn (a2.size : Int) 30) : Int).toNat)).size + (a1.extract 0 ((mn (a1.size : Int) 10) : Int).toNat).size ≤ 9223372036854775807 then ((glob_Match.f y114 (((a0.extract 0 ((mn (a0.size : Int) 10) : Int).toNat) ++ (a2.extract 0 ((mn (a2.size : Int) 30) : Int).toNat)) ++ (a1.extract 0 ((mn (a1.size : Int) 10) : Int).toNat))).bind fun t123 => (if t123 = true then ((glob_Magic.f y114).bind fun t124 => (some t124)) else (some false))) else (none)) else (none)) else (some false))))) else ((glob_Match.f y114 (a2.extract 0 ((mn (a2.size : Int) 30) : Int).toNat)).bind fun t125 => (if (t125 == false) = true then (if (a0.extract 0 ((mn (a0.size : Int) 10) : Int).toNat).size + (a2.extract 0 ((mn (a2.size : Int) 30) : Int).toNat).size ≤ 9223372036854775807 then (if ((a0.extract 0 ((mn (a0.size : Int) 10) : Int).toNat) ++ (a2.extract 0 ((mn (a2.size : Int) 30) : Int).toNat)).size + (a1.extract 0 ((mn (a1.size : Int) 10) : Int).toNat).size ≤ 9223372036854775807 then ((glob_Match.f y114 (((a0.extract 0 ((mn (a0.size : Int) 10) : Int).toNat) ++ (a2.extract 0 ((mn (a2.size : Int) 30) : Int).toNat)) ++ (a1.extract 0 ((mn (a1.size : Int) 10) : Int).toNat))).bind fun t126 => (if t126 = true then ((glob_Magic.f y114).bind fun t127 => (some t127)) else (some false))) else (none)) else (none)) else (some false))))) else (none)) else (none)) else (none)) else (none)) else (none)) else (none)) else (some false))) = some r := h
  clear h
  replace H := Option.bind_eq_some_iff.mp H
  obtain ⟨t113, A40, H⟩ := H
  replace H : (if t113 = true then (if 0 ≤ (mn (a0.size : Int) 10) then (if (mn (a0.size : Int) 10) ≤ (a0.size : Int) then (if 0 ≤ (mn (a1.size : Int) 10) then (if (mn (a1.size : Int) 10) ≤ (a1.size : Int) then (if 0 ≤ (mn (a2.size : Int) 30) then (if (mn (a2.size : Int) 30) ≤ (a2.size : Int) then ((some (([(⟨a0.extract 0 ((mn (a0.size : Int) 10) : Int).toNat, true, false⟩ : S33), (⟨(⟨#[42]⟩ : ByteArray), false, false⟩ : S33), (⟨a1.extract 0 ((mn (a1.size : Int) 10) : Int).toNat, true, false⟩ : S33)] : List (S33)) : List (S33))).bind fun y114 => (if ((a2.extract 0 ((mn (a2.size : Int) 30) : Int).toNat).size : Int) ≥ (wrap64 (((a0.extract 0 ((mn (a0.size : Int) 10) : Int).toNat).size : Int) + ((a1.extract 0 ((mn (a1.size : Int) 10) : Int).toNat).size : Int))) then ((strings_HasPrefix.f (a2.extract 0 ((mn (a2.size : Int) 30) : Int).toNat) (a0.extract 0 ((mn (a0.size : Int) 10) : Int).toNat)).bind fun t117 => (if t117 = true then ((strings_HasSuffix.f (a2.extract 0 ((mn (a2.size : Int) 30) : Int).toNat) (a1.extract 0 ((mn (a1.size : Int) 10) : Int).toNat)).bind fun t118 => ((glob_Match.f y114 (a2.extract 0 ((mn (a2.size : Int) 30) : Int).toNat)).bind fun t119 => (if (t119 == t118) = true then (if (a0.extract 0 ((mn (a0.size : Int) 10) : Int).toNat).size + (a2.extract 0 ((mn (a2.size : Int) 30) : Int).toNat).size ≤ 9223372036854775807 then (if ((a0.extract 0 ((mn (a0.size : Int) 10) : Int).toNat) ++ (a2.extract 0 ((mn (a2.size : Int) 30) : Int).toNat)).size + (a1.extract 0 ((mn (a1.size : Int) 10) : Int).toNat).size ≤ 9223372036854775807 then ((glob_Match.f y114 (((a0.extract 0 ((mn (a0.size : Int) 10) : Int).toNat) ++ (a2.extract 0 ((mn (a2.size : Int) 30) : Int).toNat)) ++ (a1.extract 0 ((mn (a1.size : Int) 10) : Int).toNat))).bind fun t120 => (if t120 = true then ((glob_Magic.f y114).bind fun t121 => (some t121)) else (some false))) else (none)) else (none)) else (some false)))) else ((glob_Match.f y114 (a2.extract 0 ((mn (a2.size : Int) 30) : Int).toNat)).bind fun t122 => (if (t122 == false) = true then (if (a0.extract 0 ((mn (a0.size : Int) 10) : Int).toNat).size + (a2.extract 0 ((mn (a2.size : Int) 30) : Int).toNat).size ≤ 9223372036854775807 then (if ((a0.extract 0 ((mn (a0.size : Int) 10) : Int).toNat) ++ (a2.extract 0 ((mn (a2.size : Int) 30) : Int).toNat)).size + (a1.extract 0 ((mn (a1.size : Int) 10) : Int).toNat).size ≤ 9223372036854775807 then ((glob_Match.f y114 (((a0.extract 0 ((mn (a0.size : Int) 10) : Int).toNat) ++ (a2.extract 0 ((mn (a2.size : Int) 30) : Int).toNat)) ++ (a1.extract 0 ((mn (a1.size : Int) 10) : Int).toNat))).bind fun t123 => (if t123 = true then ((glob_Magic.f y114).bind fun t124 => (some t124)) else (some false))) else (none)) else (none)) else (some false))))) else ((glob_Match.f y114 (a2.extract 0 ((mn (a2.size : Int) 30) : Int).toNat)).bind fun t125 => (if (t125 == false) = true then (if (a0.extract 0 ((mn (a0.size : Int) 10) : Int).toNat).size + (a2.extract 0 ((mn (a2.size : Int) 30) : Int).toNat).size ≤ 9223372036854775807 then (if ((a0.extract 0 ((mn (a0.size : Int) 10) : Int).toNat) ++ (a2.extract 0 ((mn (a2.size : Int) 30) : Int).toNat)).size + (a1.extract 0 ((mn (a1.size : Int) 10) : Int).toNat).size ≤ 9223372036854775807 then ((glob_Match.f y114 (((a0.extract 0 ((mn (a0.size : Int) 10) : Int).toNat) ++ (a2.extract 0 ((mn (a2.size : Int) 30) : Int).toNat)) ++ (a1.extract 0 ((mn (a1.size : Int) 10) : Int).toNat))).bind fun t126 => (if t126 = true then ((glob_Magic.f y114).bind fun t127 => (some t127)) else (some false))) else (none)) else (none)) else (some false))))) else (none)) else (none)) else (none)) else (none)) else (none)) else (none)) else (some false)) = some r := H
  have A4 := Aside0.mk A40
  clear A40
  by_cases c5 : t113 = true
  · subst c5
    have H1 : (if 0 ≤ (mn (a0.size : Int) 10) then (if (mn (a0.size : Int) 10) ≤ (a0.size : Int) then (if 0 ≤ (mn (a1.size : Int) 10) then (if (mn (a1.size : Int) 10) ≤ (a1.size : Int) then (if 0 ≤ (mn (a2.size : Int) 30) then (if (mn (a2.size : Int) 30) ≤ (a2.size : Int) then ((some (([(⟨a0.extract 0 ((mn (a0.size : Int) 10) : Int).toNat, true, false⟩ : S33), (⟨(⟨#[42]⟩ : ByteArray), false, false⟩ : S33), (⟨a1.extract 0 ((mn (a1.size : Int) 10) : Int).toNat, true, false⟩ : S33)] : List (S33)) : List (S33))).bind fun y114 => (if ((a2.extract 0 ((mn (a2.size : Int) 30) : Int).toNat).size : Int) ≥ (wrap64 (((a0.extract 0 ((mn (a0.size : Int) 10) : Int).toNat).size : Int) + ((a1.extract 0 ((mn (a1.size : Int) 10) : Int).toNat).size : Int))) then ((strings_HasPrefix.f (a2.extract 0 ((mn (a2.size : Int) 30) : Int).toNat) (a0.extract 0 ((mn (a0.size : Int) 10) : Int).toNat)).bind fun t117 => (if t117 = true then ((strings_HasSuffix.f (a2.extract 0 ((mn (a2.size : Int) 30) : Int).toNat) (a1.extract 0 ((mn (a1.size : Int) 10) : Int).toNat)).bind fun t118 => ((glob_Match.f y114 (a2.extract 0 ((mn (a2.size : Int) 30) : Int).toNat)).bind fun t119 => (if (t119 == t118) = true then (if (a0.extract 0 ((mn (a0.size : Int) 10) : Int).toNat).size + (a2.extract 0 ((mn (a2.size : Int) 30) : Int).toNat).size ≤ 9223372036854775807 then (if ((a0.extract 0 ((mn (a0.size : Int) 10) : Int).toNat) ++ (a2.extract 0 ((mn (a2.size : Int) 30) : Int).toNat)).size + (a1.extract 0 ((mn (a1.size : Int) 10) : Int).toNat).size ≤ 9223372036854775807 then ((glob_Match.f y114 (((a0.extract 0 ((mn (a0.size : Int) 10) : Int).toNat) ++ (a2.extract 0 ((mn (a2.size : Int) 30) : Int).toNat)) ++ (a1.extract 0 ((mn (a1.size : Int) 10) : Int).toNat))).bind fun t120 => (if t120 = true then ((glob_Magic.f y114).bind fun t121 => (some t121)) else (some false))) else (none)) else (none)) else (some false)))) else ((glob_Match.f y114 (a2.extract 0 ((mn (a2.size : Int) 30) : Int).toNat)).bind fun t122 => (if (t122 == false) = true then (if (a0.extract 0 ((mn (a0.size : Int) 10) : Int).toNat).size + (a2.extract 0 ((mn (a2.size : Int) 30) : Int).toNat).size ≤ 9223372036854775807 then (if ((a0.extract 0 ((mn (a0.size : Int) 10) : Int).toNat) ++ (a2.extract 0 ((mn (a2.size : Int) 30) : Int).toNat)).size + (a1.extract 0 ((mn (a1.size : Int) 10) : Int).toNat).size ≤ 9223372036854775807 then ((glob_Match.f y114 (((a0.extract 0 ((mn (a0.size : Int) 10) : Int).toNat) ++ (a2.extract 0 ((mn (a2.size : Int) 30) : Int).toNat)) ++ (a1.extract 0 ((mn (a1.size : Int) 10) : Int).toNat))).bind fun t123 => (if t123 = true then ((glob_Magic.f y114).bind fun t124 => (some t124)) else (some false))) else (none)) else (none)) else (some false))))) else ((glob_Match.f y114 (a2.extract 0 ((mn (a2.size : Int) 30) : Int).toNat)).bind fun t125 => (if (t125 == false) = true then (if (a0.extract 0 ((mn (a0.size : Int) 10) : Int).toNat).size + (a2.extract 0 ((mn (a2.size : Int) 30) : Int).toNat).size ≤ 9223372036854775807 then (if ((a0.extract 0 ((mn (a0.size : Int) 10) : Int).toNat) ++ (a2.extract 0 ((mn (a2.size : Int) 30) : Int).toNat)).size + (a1.extract 0 ((mn (a1.size : Int) 10) : Int).toNat).size ≤ 9223372036854775807 then ((glob_Match.f y114 (((a0.extract 0 ((mn (a0.size : Int) 10) : Int).toNat) ++ (a2.extract 0 ((mn (a2.size : Int) 30) : Int).toNat)) ++ (a1.extract 0 ((mn (a1.size : Int) 10) : Int).toNat))).bind fun t126 => (if t126 = true then ((glob_Magic.f y114).bind fun t127 => (some t127)) else (some false))) else (none)) else (none)) else (some false))))) else (none)) else (none)) else (none)) else (none)) else (none)) else (none)) = some r := by rw [if_pos rfl] at H; exact H
    clear H
    have H := H1
    clear H1
    obtain ⟨ji6, hji6⟩ : ∃ j_ : Int, (mn (a0.size : Int) 10) = j_ := ⟨_, rfl⟩
    replace H : (if 0 ≤ (ji6) then (if (ji6) ≤ (a0.size : Int) then (if 0 ≤ (mn (a1.size : Int) 10) then (if (mn (a1.size : Int) 10) ≤ (a1.size : Int) then (if 0 ≤ (mn (a2.size : Int) 30) then (if (mn (a2.size : Int) 30) ≤ (a2.size : Int) then ((some (([(⟨a0.extract 0 ((ji6) : Int).toNat, true, false⟩ : S33), (⟨(⟨#[42]⟩ : ByteArray), false, false⟩ : S33), (⟨a1.extract 0 ((mn (a1.size : Int) 10) : Int).toNat, true, false⟩ : S33)] : List (S33)) : List (S33))).bind fun y114 => (if ((a2.extract 0 ((mn (a2.size : Int) 30) : Int).toNat).size : Int) ≥ (wrap64 (((a0.extract 0 ((ji6) : Int).toNat).size : Int) + ((a1.extract 0 ((mn (a1.size : Int) 10) : Int).toNat).size : Int))) then ((strings_HasPrefix.f (a2.extract 0 ((mn (a2.size : Int) 30) : Int).toNat) (a0.extract 0 ((ji6) : Int).toNat)).bind fun t117 => (if t117 = true then ((strings_HasSuffix.f (a2.extract 0 ((mn (a2.size : Int) 30) : Int).toNat) (a1.extract 0 ((mn (a1.size : Int) 10) : Int).toNat)).bind fun t118 => ((glob_Match.f y114 (a2.extract 0 ((mn (a2.size : Int) 30) : Int).toNat)).bind fun t119 => (if (t119 == t118) = true then (if (a0.extract 0 ((ji6) : Int).toNat).size + (a2.extract 0 ((mn (a2.size : Int) 30) : Int).toNat).size ≤ 9223372036854775807 then (if ((a0.extract 0 ((ji6) : Int).toNat) ++ (a2.extract 0 ((mn (a2.size : Int) 30) : Int).toNat)).size + (a1.extract 0 ((mn (a1.size : Int) 10) : Int).toNat).size ≤ 9223372036854775807 then ((glob_Match.f y114 (((a0.extract 0 ((ji6) : Int).toNat) ++ (a2.extract 0 ((mn (a2.size : Int) 30) : Int).toNat)) ++ (a1.extract 0 ((mn (a1.size : Int) 10) : Int).toNat))).bind fun t120 => (if t120 = true then ((glob_Magic.f y114).bind fun t121 => (some t121)) else (some false))) else (none)) else (none)) else (some false)))) else ((glob_Match.f y114 (a2.extract 0 ((mn (a2.size : Int) 30) : Int).toNat)).bind fun t122 => (if (t122 == false) = true then (if (a0.extract 0 ((ji6) : Int).toNat).size + (a2.extract 0 ((mn (a2.size : Int) 30) : Int).toNat).size ≤ 9223372036854775807 then (if ((a0.extract 0 ((ji6) : Int).toNat) ++ (a2.extract 0 ((mn (a2.size : Int) 30) : Int).toNat)).size + (a1.extract 0 ((mn (a1.size : Int) 10) : Int).toNat).size ≤ 9223372036854775807 then ((glob_Match.f y114 (((a0.extract 0 ((ji6) : Int).toNat) ++ (a2.extract 0 ((mn (a2.size : Int) 30) : Int).toNat)) ++ (a1.extract 0 ((mn (a1.size : Int) 10) : Int).toNat))).bind fun t123 => (if t123 = true then ((glob_Magic.f y114).bind fun t124 => (some t124)) else (some false))) else (none)) else (none)) else (some false))))) else ((glob_Match.f y114 (a2.extract 0 ((mn (a2.size : Int) 30) : Int).toNat)).bind fun t125 => (if (t125 == false) = true then (if (a0.extract 0 ((ji6) : Int).toNat).size + (a2.extract 0 ((mn (a2.size : Int) 30) : Int).toNat).size ≤ 9223372036854775807 then (if ((a0.extract 0 ((ji6) : Int).toNat) ++ (a2.extract 0 ((mn (a2.size : Int) 30) : Int).toNat)).size + (a1.extract 0 ((mn (a1.size : Int) 10) : Int).toNat).size ≤ 9223372036854775807 then ((glob_Match.f y114 (((a0.extract 0 ((ji6) : Int).toNat) ++ (a2.extract 0 ((mn (a2.size : Int) 30) : Int).toNat)) ++ (a1.extract 0 ((mn (a1.size : Int) 10) : Int).toNat))).bind fun t126 => (if t126 = true then ((glob_Magic.f y114).bind fun t127 => (some t127)) else (some false))) else (none)) else (none)) else (some false))))) else (none)) else (none)) else (none)) else (none)) else (none)) else (none)) = some r := by first | (rw [hji6] at H; exact H) | (simp only [hji6] at H ⊢; exact H)
    (try rw [hji6] at A4)
    (try (have hji6h : ji6 ≤ 10 := by (rw [← hji6]; unfold mn; (repeat' split) <;> omega)))
    (try (have hji6g : ji6 ≤ 64 := by omega))
    (try (have hji6l : 0 ≤ ji6 := by (rw [← hji6]; unfold mn; (repeat' split) <;> omega)))
    (try (have hji6m : 0 ≤ ji6 := by omega))
    have hji6_ : (if 10 < (a0.size : Int) then 10 else (a0.size : Int)) = ji6 := hji6
    by_cases c7 : 0 ≤ (ji6)
    · rw [if_pos c7] at H
      have c7b0 := eq_true c7
      have c7b1 : decide (0 ≤ (ji6)) = true := decide_eq_true c7
      clear c7
      by_cases c8 : (ji6) ≤ (a0.size : Int)
      · rw [if_pos c8] at H
        have c8b0 := eq_true c8
        have c8b1 : decide ((ji6) ≤ (a0.size : Int)) = true := decide_eq_true c8
        clear c8
        obtain ⟨ji9, hji9⟩ : ∃ j_ : Int, (mn (a1.size : Int) 10) = j_ := ⟨_, rfl⟩
        replace H : (if 0 ≤ (ji9) then (if (ji9) ≤ (a1.size : Int) then (if 0 ≤ (mn (a2.size : Int) 30) then (if (mn (a2.size : Int) 30) ≤ (a2.size : Int) then ((some (([(⟨a0.extract 0 ((ji6) : Int).toNat, true, false⟩ : S33), (⟨(⟨#[42]⟩ : ByteArray), false, false⟩ : S33), (⟨a1.extract 0 ((ji9) : Int).toNat, true, false⟩ : S33)] : List (S33)) : List (S33))).bind fun y114 => (if ((a2.extract 0 ((mn (a2.size : Int) 30) : Int).toNat).size : Int) ≥ (wrap64 (((a0.extract 0 ((ji6) : Int).toNat).size : Int) + ((a1.extract 0 ((ji9) : Int).toNat).size : Int))) then ((strings_HasPrefix.f (a2.extract 0 ((mn (a2.size : Int) 30) : Int).toNat) (a0.extract 0 ((ji6) : Int).toNat)).bind fun t117 => (if t117 = true then ((strings_HasSuffix.f (a2.extract 0 ((mn (a2.size : Int) 30) : Int).toNat) (a1.extract 0 ((ji9) : Int).toNat)).bind fun t118 => ((glob_Match.f y114 (a2.extract 0 ((mn (a2.size : Int) 30) : Int).toNat)).bind fun t119 => (if (t119 == t118) = true then (if (a0.extract 0 ((ji6) : Int).toNat).size + (a2.extract 0 ((mn (a2.size : Int) 30) : Int).toNat).size ≤ 9223372036854775807 then (if ((a0.extract 0 ((ji6) : Int).toNat) ++ (a2.extract 0 ((mn (a2.size : Int) 30) : Int).toNat)).size + (a1.extract 0 ((ji9) : Int).toNat).size ≤ 9223372036854775807 then ((glob_Match.f y114 (((a0.extract 0 ((ji6) : Int).toNat) ++ (a2.extract 0 ((mn (a2.size : Int) 30) : Int).toNat)) ++ (a1.extract 0 ((ji9) : Int).toNat))).bind fun t120 => (if t120 = true then ((glob_Magic.f y114).bind fun t121 => (some t121)) else (some false))) else (none)) else (none)) else (some false)))) else ((glob_Match.f y114 (a2.extract 0 ((mn (a2.size : Int) 30) : Int).toNat)).bind fun t122 => (if (t122 == false) = true then (if (a0.extract 0 ((ji6) : Int).toNat).size + (a2.extract 0 ((mn (a2.size : Int) 30) : Int).toNat).size ≤ 9223372036854775807 then (if ((a0.extract 0 ((ji6) : Int).toNat) ++ (a2.extract 0 ((mn (a2.size : Int) 30) : Int).toNat)).size + (a1.extract 0 ((ji9) : Int).toNat).size ≤ 9223372036854775807 then ((glob_Match.f y114 (((a0.extract 0 ((ji6) : Int).toNat) ++ (a2.extract 0 ((mn (a2.size : Int) 30) : Int).toNat)) ++ (a1.extract 0 ((ji9) : Int).toNat))).bind fun t123 => (if t123 = true then ((glob_Magic.f y114).bind fun t124 => (some t124)) else (some false))) else (none)) else (none)) else (some false))))) else ((glob_Match.f y114 (a2.extract 0 ((mn (a2.size : Int) 30) : Int).toNat)).bind fun t125 => (if (t125 == false) = true then (if (a0.extract 0 ((ji6) : Int).toNat).size + (a2.extract 0 ((mn (a2.size : Int) 30) : Int).toNat).size ≤ 9223372036854775807 then (if ((a0.extract 0 ((ji6) : Int).toNat) ++ (a2.extract 0 ((mn (a2.size : Int) 30) : Int).toNat)).size + (a1.extract 0 ((ji9) : Int).toNat).size ≤ 9223372036854775807 then ((glob_Match.f y114 (((a0.extract 0 ((ji6) : Int).toNat) ++ (a2.extract 0 ((mn (a2.size : Int) 30) : Int).toNat)) ++ (a1.extract 0 ((ji9) : Int).toNat))).bind fun t126 => (if t126 = true then ((glob_Magic.f y114).bind fun t127 => (some t127)) else (some false))) else (none)) else (none)) else (some false))))) else (none)) else (none)) else (none)) else (none)) = some r := by first | (rw [hji9] at H; exact H) | (simp only [hji9] at H ⊢; exact H)
        (try rw [hji9] at A4)
        (try (have hji9h : ji9 ≤ 10 := by (rw [← hji9]; unfold mn; (repeat' split) <;> omega)))
        (try (have hji9g : ji9 ≤ 64 := by omega))
        (try (have hji9l : 0 ≤ ji9 := by (rw [← hji9]; unfold mn; (repeat' split) <;> omega)))
        (try (have hji9m : 0 ≤ ji9 := by omega))
        have hji9_ : (if 10 < (a1.size : Int) then 10 else (a1.size : Int)) = ji9 := hji9
        by_cases c10 : 0 ≤ (ji9)
        · rw [if_pos c10] at H
          have c10b0 := eq_true c10
          have c10b1 : decide (0 ≤ (ji9)) = true := decide_eq_true c10
          clear c10
          by_cases c11 : (ji9) ≤ (a1.size : Int)
          · rw [if_pos c11] at H
            have c11b0 := eq_true c11
            have c11b1 : decide ((ji9) ≤ (a1.size : Int)) = true := decide_eq_true c11
            clear c11
            obtain ⟨ji12, hji12⟩ : ∃ j_ : Int, (mn (a2.size : Int) 30) = j_ := ⟨_, rfl⟩
            replace H : (if 0 ≤ (ji12) then (if (ji12) ≤ (a2.size : Int) then ((some (([(⟨a0.extract 0 ((ji6) : Int).toNat, true, false⟩ : S33), (⟨(⟨#[42]⟩ : ByteArray), false, false⟩ : S33), (⟨a1.extract 0 ((ji9) : Int).toNat, true, false⟩ : S33)] : List (S33)) : List (S33))).bind fun y114 => (if ((a2.extract 0 ((ji12) : Int).toNat).size : Int) ≥ (wrap64 (((a0.extract 0 ((ji6) : Int).toNat).size : Int) + ((a1.extract 0 ((ji9) : Int).toNat).size : Int))) then ((strings_HasPrefix.f (a2.extract 0 ((ji12) : Int).toNat) (a0.extract 0 ((ji6) : Int).toNat)).bind fun t117 => (if t117 = true then ((strings_HasSuffix.f (a2.extract 0 ((ji12) : Int).toNat) (a1.extract 0 ((ji9) : Int).toNat)).bind fun t118 => ((glob_Match.f y114 (a2.extract 0 ((ji12) : Int).toNat)).bind fun t119 => (if (t119 == t118) = true then (if (a0.extract 0 ((ji6) : Int).toNat).size + (a2.extract 0 ((ji12) : Int).toNat).size ≤ 9223372036854775807 then (if ((a0.extract 0 ((ji6) : Int).toNat) ++ (a2.extract 0 ((ji12) : Int).toNat)).size + (a1.extract 0 ((ji9) : Int).toNat).size ≤ 9223372036854775807 then ((glob_Match.f y114 (((a0.extract 0 ((ji6) : Int).toNat) ++ (a2.extract 0 ((ji12) : Int).toNat)) ++ (a1.extract 0 ((ji9) : Int).toNat))).bind fun t120 => (if t120 = true then ((glob_Magic.f y114).bind fun t121 => (some t121)) else (some false))) else (none)) else (none)) else (some false)))) else ((glob_Match.f y114 (a2.extract 0 ((ji12) : Int).toNat)).bind fun t122 => (if (t122 == false) = true then (if (a0.extract 0 ((ji6) : Int).toNat).size + (a2.extract 0 ((ji12) : Int).toNat).size ≤ 9223372036854775807 then (if ((a0.extract 0 ((ji6) : Int).toNat) ++ (a2.extract 0 ((ji12) : Int).toNat)).size + (a1.extract 0 ((ji9) : Int).toNat).size ≤ 9223372036854775807 then ((glob_Match.f y114 (((a0.extract 0 ((ji6) : Int).toNat) ++ (a2.extract 0 ((ji12) : Int).toNat)) ++ (a1.extract 0 ((ji9) : Int).toNat))).bind fun t123 => (if t123 = true then ((glob_Magic.f y114).bind fun t124 => (some t124)) else (some false))) else (none)) else (none)) else (some false))))) else ((glob_Match.f y114 (a2.extract 0 ((ji12) : Int).toNat)).bind fun t125 => (if (t125 == false) = true then (if (a0.extract 0 ((ji6) : Int).toNat).size + (a2.extract 0 ((ji12) : Int).toNat).size ≤ 9223372036854775807 then (if ((a0.extract 0 ((ji6) : Int).toNat) ++ (a2.extract 0 ((ji12) : Int).toNat)).size + (a1.extract 0 ((ji9) : Int).toNat).size ≤ 9223372036854775807 then ((glob_Match.f y114 (((a0.extract 0 ((ji6) : Int).toNat) ++ (a2.extract 0 ((ji12) : Int).toNat)) ++ (a1.extract 0 ((ji9) : Int).toNat))).bind fun t126 => (if t126 = true then ((glob_Magic.f y114).bind fun t127 => (some t127)) else (some false))) else (none)) else (none)) else (some false))))) else (none)) else (none)) = some r := by first | (rw [hji12] at H; exact H) | (simp only [hji12] at H ⊢; exact H)
            (try rw [hji12] at A4)
            (try (have hji12h : ji12 ≤ 30 := by (rw [← hji12]; unfold mn; (repeat' split) <;> omega)))
            (try (have hji12g : ji12 ≤ 64 := by omega))
            (try (have hji12l : 0 ≤ ji12 := by (rw [← hji12]; unfold mn; (repeat' split) <;> omega)))
            (try (have hji12m : 0 ≤ ji12 := by omega))
            have hji12_ : (if 30 < (a2.size : Int) then 30 else (a2.size : Int)) = ji12 := hji12
            by_cases c13 : 0 ≤ (ji12)
            · rw [if_pos c13] at H
              have c13b0 := eq_true c13
              have c13b1 : decide (0 ≤ (ji12)) = true := decide_eq_true c13
              clear c13
              by_cases c14 : (ji12) ≤ (a2.size : Int)
              · rw [if_pos c14] at H
                have c14b0 := eq_true c14
                have c14b1 : decide ((ji12) ≤ (a2.size : Int)) = true := decide_eq_true c14
                clear c14
                obtain ⟨s6, hs6⟩ : ∃ s_ : ByteArray, a0.extract 0 ((ji6) : Int).toNat = s_ := ⟨_, rfl⟩
                rw [hs6] at H
                have zs6 : s6.size ≤ 64 := by rw [← hs6, ByteArray.size_extract]; omega
                obtain ⟨s9, hs9⟩ : ∃ s_ : ByteArray, a1.extract 0 ((ji9) : Int).toNat = s_ := ⟨_, rfl⟩
                rw [hs9] at H
                have zs9 : s9.size ≤ 64 := by rw [← hs9, ByteArray.size_extract]; omega
                obtain ⟨s12, hs12⟩ : ∃ s_ : ByteArray, a2.extract 0 ((ji12) : Int).toNat = s_ := ⟨_, rfl⟩
                rw [hs12] at H
                have zs12 : s12.size ≤ 64 := by rw [← hs12, ByteArray.size_extract]; omega
                obtain ⟨y114, hy114⟩ : ∃ y_ : List (S33), y_ = (([(⟨s6, true, false⟩ : S33), (⟨(⟨#[42]⟩ : ByteArray), false, false⟩ : S33), (⟨s9, true, false⟩ : S33)] : List (S33))) := ⟨_, rfl⟩
                replace H : (if (s12.size : Int) ≥ (wrap64 ((s6.size : Int) + (s9.size : Int))) then ((strings_HasPrefix.f s12 s6).bind fun t117 => (if t117 = true then ((strings_HasSuffix.f s12 s9).bind fun t118 => ((glob_Match.f y114 s12).bind fun t119 => (if (t119 == t118) = true then (if s6.size + s12.size ≤ 9223372036854775807 then (if (s6 ++ s12).size + s9.size ≤ 9223372036854775807 then ((glob_Match.f y114 ((s6 ++ s12) ++ s9)).bind fun t120 => (if t120 = true then ((glob_Magic.f y114).bind fun t121 => (some t121)) else (some false))) else (none)) else (none)) else (some false)))) else ((glob_Match.f y114 s12).bind fun t122 => (if (t122 == false) = true then (if s6.size + s12.size ≤ 9223372036854775807 then (if (s6 ++ s12).size + s9.size ≤ 9223372036854775807 then ((glob_Match.f y114 ((s6 ++ s12) ++ s9)).bind fun t123 => (if t123 = true then ((glob_Magic.f y114).bind fun t124 => (some t124)) else (some false))) else (none)) else (none)) else (some false))))) else ((glob_Match.f y114 s12).bind fun t125 => (if (t125 == false) = true then (if s6.size + s12.size ≤ 9223372036854775807 then (if (s6 ++ s12).size + s9.size ≤ 9223372036854775807 then ((glob_Match.f y114 ((s6 ++ s12) ++ s9)).bind fun t126 => (if t126 = true then ((glob_Magic.f y114).bind fun t127 => (some t127)) else (some false))) else (none)) else (none)) else (some false)))) = some r := by first | (rw [hy114]; with_reducible exact H) | (have H2_ := (Option.bind_some _ _).symm.trans H; rw [hy114]; with_reducible exact H2_) | (have H2_ := (Option.bind_some _ _).symm.trans H; with_reducible exact H2_) | with_reducible exact H | (rw [hy114]; exact H) | exact H
                have Ny114 := Aside0.mk hy114
                clear hy114
                by_cases c15 : (s12.size : Int) ≥ (wrap64 ((s6.size : Int) + (s9.size : Int)))
                · rw [if_pos c15] at H
                  have c15b0 : decide ((wrap64 ((s6.size : Int) + (s9.size : Int))) ≤ (s12.size : Int)) = true := decide_eq_true c15
                  have c15s : decide ((s6.size : Int) + (s9.size : Int) ≤ (s12.size : Int)) = true := by (have e : wrap64 ((s6.size : Int) + (s9.size : Int)) = (s6.size : Int) + (s9.size : Int) := (by unfold wrap64; omega)); rw [← e]; exact c15b0
                  clear c15
                  replace H := Option.bind_eq_some_iff.mp H
                  obtain ⟨t117, A160, H⟩ := H
                  replace H : (if t117 = true then ((strings_HasSuffix.f s12 s9).bind fun t118 => ((glob_Match.f y114 s12).bind fun t119 => (if (t119 == t118) = true then (if s6.size + s12.size ≤ 9223372036854775807 then (if (s6 ++ s12).size + s9.size ≤ 9223372036854775807 then ((glob_Match.f y114 ((s6 ++ s12) ++ s9)).bind fun t120 => (if t120 = true then ((glob_Magic.f y114).bind fun t121 => (some t121)) else (some false))) else (none)) else (none)) else (some false)))) else ((glob_Match.f y114 s12).bind fun t122 => (if (t122 == false) = true then (if s6.size + s12.size ≤ 9223372036854775807 then (if (s6 ++ s12).size + s9.size ≤ 9223372036854775807 then ((glob_Match.f y114 ((s6 ++ s12) ++ s9)).bind fun t123 => (if t123 = true then ((glob_Magic.f y114).bind fun t124 => (some t124)) else (some false))) else (none)) else (none)) else (some false)))) = some r := H
                  have A16 := Aside0.mk A160
                  clear A160
                  by_cases c17 : t117 = true
                  · subst c17
                    have H1 : ((strings_HasSuffix.f s12 s9).bind fun t118 => ((glob_Match.f y114 s12).bind fun t119 => (if (t119 == t118) = true then (if s6.size + s12.size ≤ 9223372036854775807 then (if (s6 ++ s12).size + s9.size ≤ 9223372036854775807 then ((glob_Match.f y114 ((s6 ++ s12) ++ s9)).bind fun t120 => (if t120 = true then ((glob_Magic.f y114).bind fun t121 => (some t121)) else (some false))) else (none)) else (none)) else (some false)))) = some r := by rw [if_pos rfl] at H; exact H
                    clear H
                    have H := H1
                    clear H1
                    replace H := Option.bind_eq_some_iff.mp H
                    obtain ⟨t118, A180, H⟩ := H
                    replace H : ((glob_Match.f y114 s12).bind fun t119 => (if (t119 == t118) = true then (if s6.size + s12.size ≤ 9223372036854775807 then (if (s6 ++ s12).size + s9.size ≤ 9223372036854775807 then ((glob_Match.f y114 ((s6 ++ s12) ++ s9)).bind fun t120 => (if t120 = true then ((glob_Magic.f y114).bind fun t121 => (some t121)) else (some false))) else (none)) else (none)) else (some false))) = some r := H
                    have A18 := Aside0.mk A180
                    clear A180
                    replace H := Option.bind_eq_some_iff.mp H
                    obtain ⟨t119, A190, H⟩ := H
                    replace H : (if (t119 == t118) = true then (if s6.size + s12.size ≤ 9223372036854775807 then (if (s6 ++ s12).size + s9.size ≤ 9223372036854775807 then ((glob_Match.f y114 ((s6 ++ s12) ++ s9)).bind fun t120 => (if t120 = true then ((glob_Magic.f y114).bind fun t121 => (some t121)) else (some false))) else (none)) else (none)) else (some false)) = some r := H
                    have A19 := Aside0.mk A190
                    clear A190
                    by_cases c20 : (t119 == t118) = true
                    · rw [if_pos c20] at H
                      have c20b0 : (t119 == t118) = true := c20
                      (try (have c20b1 : decide (t119 = t118) = true := by simpa using c20))
                      (try (have c20b2 : (t119 == t118) = true := by simpa using c20))
                      clear c20
                      by_cases c21 : s6.size + s12.size ≤ 9223372036854775807
                      · rw [if_pos c21] at H
                        have c21b0 := eq_true c21
                        have c21b1 : decide (s6.size + s12.size ≤ 9223372036854775807) = true := decide_eq_true c21
                        try have c21b2 : (9223372036854775807 < s6.size + s12.size) = False := eq_false (Nat.not_lt.2 c21)
                        by_cases c22 : (s6 ++ s12).size + s9.size ≤ 9223372036854775807
                        · rw [if_pos c22] at H
                          have c22b0 := eq_true c22
                          have c22b1 : decide ((s6 ++ s12).size + s9.size ≤ 9223372036854775807) = true := decide_eq_true c22
                          try have c22b2 : (9223372036854775807 < (s6 ++ s12).size + s9.size) = False := eq_false (Nat.not_lt.2 c22)
                          have c22s : (9223372036854775807 < s6.size + s12.size + s9.size) = False := eq_false (by omega)
                          replace H := Option.bind_eq_some_iff.mp H
                          obtain ⟨t120, A230, H⟩ := H
                          replace H : (if t120 = true then ((glob_Magic.f y114).bind fun t121 => (some t121)) else (some false)) = some r := H
                          have A23 := Aside0.mk A230
                          clear A230
                          by_cases c24 : t120 = true
                          · subst c24
                            have H1 : ((glob_Magic.f y114).bind fun t121 => (some t121)) = some r := by rw [if_pos rfl] at H; exact H
                            clear H
                            have H := H1
                            clear H1
                            replace H := Option.bind_eq_some_iff.mp H
                            obtain ⟨t121, A250, H⟩ := H
                            replace H : (some t121) = some r := H
                            have A25 := Aside0.mk A250
                            clear A250
                            obtain rfl := Option.some.inj H
                            go_enter Try.func5, Try.ntmps5
                            go_wp2_with (first | ((with_reducible refine gate_callee (f := 13) rfl ?_); refine goesL_ (some 9) rfl rfl Try.func13 (by kernel_rfl) rfl #[] rfl (by (try simp only [List.map_toArray, List.map_cons, List.map_nil]); first | done | rfl | (simp only [List.length_drop, List.length_take]; rfl)) ?_; (with_reducible refine (whisklaw14_works.calls  true _ A4.out).mono ?_); rintro e w26 ⟨rfl, hb⟩; refine ⟨_, rfl, ?_⟩; have n0_ := Aside0.mk (below_step (by repeat (first | (with_reducible first | exact HB.out | apply below_alloc | apply pw_below_drewN | apply below_drew1) | exact HB.out)) hb); clear HB; have HB := n0_; clear n0_; (try clear hb); (try clear hb2); (try clear hk); (try clear hi)) | ((with_reducible refine gate_dst (N := 31) rfl ?_); refine Kd.R_lit k33 _ 33 ?hg (N := 31) ?hd (xs := ([(⟨s6, true, false⟩ : S33), (⟨(⟨#[42]⟩ : ByteArray), false, false⟩ : S33), (⟨s9, true, false⟩ : S33)] : List (S33))) (inner := [.string s6, .bool true, .bool false, .string (⟨#[42]⟩ : ByteArray), .bool false, .bool false, .string s9, .bool true, .bool false]) (ok := fun _ => True) (okp := fun _ => True) ?hr ?hp (fun _ hk => hk) trivial (Below.refl _ _) (Nat.le_refl _) (by simp) ?_; (case hd => rfl); (case hg => rfl); (case hr => first | (go_simp; done) | (go_simp; rfl)); (case hp => exact (Reps.c3 (show Kd.M k33 _ _ _ (⟨s6, true, false⟩ : S33) [.string s6, .bool true, .bool false] from (k33_mkM _ _ _ (⟨s6, true, false⟩ : S33) )) (Reps.c3 (show Kd.M k33 _ _ _ (⟨(⟨#[42]⟩ : ByteArray), false, false⟩ : S33) [.string (⟨#[42]⟩ : ByteArray), .bool false, .bool false] from (k33_mkM _ _ _ (⟨(⟨#[42]⟩ : ByteArray), false, false⟩ : S33) )) (Reps.c3 (show Kd.M k33 _ _ _ (⟨s9, true, false⟩ : S33) [.string s9, .bool true, .bool false] from (k33_mkM _ _ _ (⟨s9, true, false⟩ : S33) )) (Reps.none _ _))))); intro v115 w27 ho28 hb hg_ hnew_; clear hg_ hnew_; (first | rw [← Ny114.out] at ho28 | (simp only [Int.reduceToNat] at ho28; rw [← Ny114.out] at ho28)); have n0_ := Aside0.mk (Kd.R_lower ho28 (below_size (by repeat (first | (with_reducible first | exact HB.out | apply below_alloc | apply pw_below_drewN | apply below_drew1) | exact HB.out)))); have n1_ := Aside0.mk (below_step (by repeat (first | (with_reducible first | exact HB.out | apply below_alloc | apply pw_below_drewN | apply below_drew1) | exact HB.out)) hb); clear HB; have HO116 := n0_; have HB := n1_; clear n0_ n1_; clear hb ho28) | (go_at_call 17; (with_reducible refine (strings_HasPrefix.calls s12 s6 true _ A16.out).mono ?_); rintro e w29 ⟨rfl, hb⟩; have n0_ := Aside0.mk (Kd.R_below (by (with_reducible repeat (first | apply Kd.R_alloc | apply Kd.R_drewN | apply Kd.R_drew)); exact HO116.out) hb); have n1_ := Aside0.mk (below_step (by repeat (first | (with_reducible first | exact HB.out | apply below_alloc | apply pw_below_drewN | apply below_drew1) | exact HB.out)) hb); clear HO116; clear HB; have HO116 := n0_; have HB := n1_; clear n0_ n1_; (try clear hb); (try clear hb2); (try clear hk); (try clear hi)) | (go_at_call 18; (with_reducible refine (strings_HasSuffix.calls s12 s9 t118 _ A18.out).mono ?_); rintro e w30 ⟨rfl, hb⟩; have n0_ := Aside0.mk (Kd.R_below (by (with_reducible repeat (first | apply Kd.R_alloc | apply Kd.R_drewN | apply Kd.R_drew)); exact HO116.out) hb); have n1_ := Aside0.mk (below_step (by repeat (first | (with_reducible first | exact HB.out | apply below_alloc | apply pw_below_drewN | apply below_drew1) | exact HB.out)) hb); clear HO116; clear HB; have HO116 := n0_; have HB := n1_; clear n0_ n1_; (try clear hb); (try clear hb2); (try clear hk); (try clear hi); obtain ⟨Ao31, co31, eo31⟩ := Kd.R_slice HO116.out; subst eo31) | ((with_reducible refine gate_callee (f := 11) rfl ?_); refine goesL_ (some 52) rfl rfl Try.func11 (by kernel_rfl) rfl #[.slice Ao31 y114.length co31, .string s12] rfl (by (try simp only [List.map_toArray, List.map_cons, List.map_nil]); first | done | (simp only [hji12]; rfl) | rfl | (simp only [List.length_drop, List.length_take]; rfl)) ?_; (with_reducible refine (glob_Match.calls _ _ y114 s12 t119 _ ?side1 ?side2 A19.out).mono ?_); (case side1 => repeat (first | exact (Kd.R_reads' HO116.out).2.2 | (with_reducible refine Kd.C_alloc ?_ _) | (with_reducible refine Kd.C_drewN ?_ _) | (with_reducible refine Kd.C_drew ?_))); (case side2 => exact (Kd.R_reads' HO116.out).2.1); rintro e w32 ⟨rfl, hb⟩; refine ⟨_, rfl, ?_⟩; have n0_ := Aside0.mk (Kd.R_below (by (with_reducible repeat (first | apply Kd.R_alloc | apply Kd.R_drewN | apply Kd.R_drew)); exact HO116.out) hb); have n1_ := Aside0.mk (below_step (by repeat (first | (with_reducible first | exact HB.out | apply below_alloc | apply pw_below_drewN | apply below_drew1) | exact HB.out)) hb); clear HO116; clear HB; have HO116 := n0_; have HB := n1_; clear n0_ n1_; (try clear hb); (try clear hb2); (try clear hk); (try clear hi)) | (go_at_call 11; (with_reducible refine (glob_Match.calls _ _ y114 ((s6 ++ s12) ++ s9) true _ ?side1 ?side2 A23.out).mono ?_); (case side1 => repeat (first | exact (Kd.R_reads' HO116.out).2.2 | (with_reducible refine Kd.C_alloc ?_ _) | (with_reducible refine Kd.C_drewN ?_ _) | (with_reducible refine Kd.C_drew ?_))); (case side2 => exact (Kd.R_reads' HO116.out).2.1); rintro e w33 ⟨rfl, hb⟩; have n0_ := Aside0.mk (Kd.R_below (by (with_reducible repeat (first | apply Kd.R_alloc | apply Kd.R_drewN | apply Kd.R_drew)); exact HO116.out) hb); have n1_ := Aside0.mk (below_step (by repeat (first | (with_reducible first | exact HB.out | apply below_alloc | apply pw_below_drewN | apply below_drew1) | exact HB.out)) hb); clear HO116; clear HB; have HO116 := n0_; have HB := n1_; clear n0_ n1_; (try clear hb); (try clear hb2); (try clear hk); (try clear hi)) | (go_at_call 19; (with_reducible refine (glob_Magic.calls _ _ y114 t121 _ ?side1 ?side2 A25.out).mono ?_); (case side1 => repeat (first | exact (Kd.R_reads' HO116.out).2.2 | (with_reducible refine Kd.C_alloc ?_ _) | (with_reducible refine Kd.C_drewN ?_ _) | (with_reducible refine Kd.C_drew ?_))); (case side2 => exact (Kd.R_reads' HO116.out).2.1); rintro e w34 ⟨rfl, hb⟩; have n0_ := Aside0.mk (Kd.R_below (by (with_reducible repeat (first | apply Kd.R_alloc | apply Kd.R_drewN | apply Kd.R_drew)); exact HO116.out) hb); have n1_ := Aside0.mk (below_step (by repeat (first | (with_reducible first | exact HB.out | apply below_alloc | apply pw_below_drewN | apply below_drew1) | exact HB.out)) hb); clear HO116; clear HB; have HO116 := n0_; have HB := n1_; clear n0_ n1_; (try clear hb); (try clear hb2); (try clear hk); (try clear hi)))
                            go_ret
                            exact ⟨by first | rfl | (simp [errW_none, errW_some] <;> rfl) | (simp only [← hji6, ← hji9, ← hji12]; first | rfl | (simp [errW_none, errW_some] <;> rfl)) | (simp [*, errW_none, errW_some] <;> rfl), by repeat (first | (with_reducible first | exact HB.out | apply below_alloc | apply pw_below_drewN | apply below_drew1) | exact HB.out)⟩
                          · replace c24 := Bool.eq_false_iff.mpr c24
                            subst c24
                            have H1 : (some false) = some r := by rw [if_neg (show ¬ (false = true) by decide)] at H; exact H
                            clear H
                            have H := H1
                            clear H1
                            obtain rfl := Option.some.inj H
                            go_enter Try.func5, Try.ntmps5
                            go_wp2_with (first | ((with_reducible refine gate_callee (f := 13) rfl ?_); refine goesL_ (some 9) rfl rfl Try.func13 (by kernel_rfl) rfl #[] rfl (by (try simp only [List.map_toArray, List.map_cons, List.map_nil]); first | done | rfl | (simp only [List.length_drop, List.length_take]; rfl)) ?_; (with_reducible refine (whisklaw14_works.calls  true _ A4.out).mono ?_); rintro e w35 ⟨rfl, hb⟩; refine ⟨_, rfl, ?_⟩; have n0_ := Aside0.mk (below_step (by repeat (first | (with_reducible first | exact HB.out | apply below_alloc | apply pw_below_drewN | apply below_drew1) | exact HB.out)) hb); clear HB; have HB := n0_; clear n0_; (try clear hb); (try clear hb2); (try clear hk); (try clear hi)) | ((with_reducible refine gate_dst (N := 31) rfl ?_); refine Kd.R_lit k33 _ 33 ?hg (N := 31) ?hd (xs := ([(⟨s6, true, false⟩ : S33), (⟨(⟨#[42]⟩ : ByteArray), false, false⟩ : S33), (⟨s9, true, false⟩ : S33)] : List (S33))) (inner := [.string s6, .bool true, .bool false, .string (⟨#[42]⟩ : ByteArray), .bool false, .bool false, .string s9, .bool true, .bool false]) (ok := fun _ => True) (okp := fun _ => True) ?hr ?hp (fun _ hk => hk) trivial (Below.refl _ _) (Nat.le_refl _) (by simp) ?_; (case hd => rfl); (case hg => rfl); (case hr => first | (go_simp; done) | (go_simp; rfl)); (case hp => exact (Reps.c3 (show Kd.M k33 _ _ _ (⟨s6, true, false⟩ : S33) [.string s6, .bool true, .bool false] from (k33_mkM _ _ _ (⟨s6, true, false⟩ : S33) )) (Reps.c3 (show Kd.M k33 _ _ _ (⟨(⟨#[42]⟩ : ByteArray), false, false⟩ : S33) [.string (⟨#[42]⟩ : ByteArray), .bool false, .bool false] from (k33_mkM _ _ _ (⟨(⟨#[42]⟩ : ByteArray), false, false⟩ : S33) )) (Reps.c3 (show Kd.M k33 _ _ _ (⟨s9, true, false⟩ : S33) [.string s9, .bool true, .bool false] from (k33_mkM _ _ _ (⟨s9, true, false⟩ : S33) )) (Reps.none _ _))))); intro v115 w36 ho37 hb hg_ hnew_; clear hg_ hnew_; (first | rw [← Ny114.out] at ho37 | (simp only [Int.reduceToNat] at ho37; rw [← Ny114.out] at ho37)); have n0_ := Aside0.mk (Kd.R_lower ho37 (below_size (by repeat (first | (with_reducible first | exact HB.out | apply below_alloc | apply pw_below_drewN | apply below_drew1) | exact HB.out)))); have n1_ := Aside0.mk (below_step (by repeat (first | (with_reducible first | exact HB.out | apply below_alloc | apply pw_below_drewN | apply below_drew1) | exact HB.out)) hb); clear HB; have HO116 := n0_; have HB := n1_; clear n0_ n1_; clear hb ho37) | (go_at_call 17; (with_reducible refine (strings_HasPrefix.calls s12 s6 true _ A16.out).mono ?_); rintro e w38 ⟨rfl, hb⟩; have n0_ := Aside0.mk (Kd.R_below (by (with_reducible repeat (first | apply Kd.R_alloc | apply Kd.R_drewN | apply Kd.R_drew)); exact HO116.out) hb); have n1_ := Aside0.mk (below_step (by repeat (first | (with_reducible first | exact HB.out | apply below_alloc | apply pw_below_drewN | apply below_drew1) | exact HB.out)) hb); clear HO116; clear HB; have HO116 := n0_; have HB := n1_; clear n0_ n1_; (try clear hb); (try clear hb2); (try clear hk); (try clear hi)) | (go_at_call 18; (with_reducible refine (strings_HasSuffix.calls s12 s9 t118 _ A18.out).mono ?_); rintro e w39 ⟨rfl, hb⟩; have n0_ := Aside0.mk (Kd.R_below (by (with_reducible repeat (first | apply Kd.R_alloc | apply Kd.R_drewN | apply Kd.R_drew)); exact HO116.out) hb); have n1_ := Aside0.mk (below_step (by repeat (first | (with_reducible first | exact HB.out | apply below_alloc | apply pw_below_drewN | apply below_drew1) | exact HB.out)) hb); clear HO116; clear HB; have HO116 := n0_; have HB := n1_; clear n0_ n1_; (try clear hb); (try clear hb2); (try clear hk); (try clear hi); obtain ⟨Ao40, co40, eo40⟩ := Kd.R_slice HO116.out; subst eo40) | ((with_reducible refine gate_callee (f := 11) rfl ?_); refine goesL_ (some 52) rfl rfl Try.func11 (by kernel_rfl) rfl #[.slice Ao40 y114.length co40, .string s12] rfl (by (try simp only [List.map_toArray, List.map_cons, List.map_nil]); first | done | (simp only [hji12]; rfl) | rfl | (simp only [List.length_drop, List.length_take]; rfl)) ?_; (with_reducible refine (glob_Match.calls _ _ y114 s12 t119 _ ?side1 ?side2 A19.out).mono ?_); (case side1 => repeat (first | exact (Kd.R_reads' HO116.out).2.2 | (with_reducible refine Kd.C_alloc ?_ _) | (with_reducible refine Kd.C_drewN ?_ _) | (with_reducible refine Kd.C_drew ?_))); (case side2 => exact (Kd.R_reads' HO116.out).2.1); rintro e w41 ⟨rfl, hb⟩; refine ⟨_, rfl, ?_⟩; have n0_ := Aside0.mk (Kd.R_below (by (with_reducible repeat (first | apply Kd.R_alloc | apply Kd.R_drewN | apply Kd.R_drew)); exact HO116.out) hb); have n1_ := Aside0.mk (below_step (by repeat (first | (with_reducible first | exact HB.out | apply below_alloc | apply pw_below_drewN | apply below_drew1) | exact HB.out)) hb); clear HO116; clear HB; have HO116 := n0_; have HB := n1_; clear n0_ n1_; (try clear hb); (try clear hb2); (try clear hk); (try clear hi)) | (go_at_call 11; (with_reducible refine (glob_Match.calls _ _ y114 ((s6 ++ s12) ++ s9) false _ ?side1 ?side2 A23.out).mono ?_); (case side1 => repeat (first | exact (Kd.R_reads' HO116.out).2.2 | (with_reducible refine Kd.C_alloc ?_ _) | (with_reducible refine Kd.C_drewN ?_ _) | (with_reducible refine Kd.C_drew ?_))); (case side2 => exact (Kd.R_reads' HO116.out).2.1); rintro e w42 ⟨rfl, hb⟩; have n0_ := Aside0.mk (Kd.R_below (by (with_reducible repeat (first | apply Kd.R_alloc | apply Kd.R_drewN | apply Kd.R_drew)); exact HO116.out) hb); have n1_ := Aside0.mk (below_step (by repeat (first | (with_reducible first | exact HB.out | apply below_alloc | apply pw_below_drewN | apply below_drew1) | exact HB.out)) hb); clear HO116; clear HB; have HO116 := n0_; have HB := n1_; clear n0_ n1_; (try clear hb); (try clear hb2); (try clear hk); (try clear hi)))
                            go_ret
                            exact ⟨by first | rfl | (simp [errW_none, errW_some] <;> rfl) | (simp only [← hji6, ← hji9, ← hji12]; first | rfl | (simp [errW_none, errW_some] <;> rfl)) | (simp [*, errW_none, errW_some] <;> rfl), by repeat (first | (with_reducible first | exact HB.out | apply below_alloc | apply pw_below_drewN | apply below_drew1) | exact HB.out)⟩
                        · rw [if_neg c22] at H
                          exact absurd H (by simp)
                      · rw [if_neg c21] at H
                        exact absurd H (by simp)
                    · rw [if_neg c20] at H
                      have c20b0 : (t119 == t118) = false := by simpa using c20
                      (try (have c20b1 : decide (t119 = t118) = false := by simpa using c20))
                      (try (have c20b2 : (t119 == t118) = false := by simpa using c20))
                      (try (have c20b3 : ¬ (t119 = t118) := by simpa using c20))
                      clear c20
                      obtain rfl := Option.some.inj H
                      go_enter Try.func5, Try.ntmps5
                      go_wp2_with (first | ((with_reducible refine gate_callee (f := 13) rfl ?_); refine goesL_ (some 9) rfl rfl Try.func13 (by kernel_rfl) rfl #[] rfl (by (try simp only [List.map_toArray, List.map_cons, List.map_nil]); first | done | rfl | (simp only [List.length_drop, List.length_take]; rfl)) ?_; (with_reducible refine (whisklaw14_works.calls  true _ A4.out).mono ?_); rintro e w43 ⟨rfl, hb⟩; refine ⟨_, rfl, ?_⟩; have n0_ := Aside0.mk (below_step (by repeat (first | (with_reducible first | exact HB.out | apply below_alloc | apply pw_below_drewN | apply below_drew1) | exact HB.out)) hb); clear HB; have HB := n0_; clear n0_; (try clear hb); (try clear hb2); (try clear hk); (try clear hi)) | ((with_reducible refine gate_dst (N := 31) rfl ?_); refine Kd.R_lit k33 _ 33 ?hg (N := 31) ?hd (xs := ([(⟨s6, true, false⟩ : S33), (⟨(⟨#[42]⟩ : ByteArray), false, false⟩ : S33), (⟨s9, true, false⟩ : S33)] : List (S33))) (inner := [.string s6, .bool true, .bool false, .string (⟨#[42]⟩ : ByteArray), .bool false, .bool false, .string s9, .bool true, .bool false]) (ok := fun _ => True) (okp := fun _ => True) ?hr ?hp (fun _ hk => hk) trivial (Below.refl _ _) (Nat.le_refl _) (by simp) ?_; (case hd => rfl); (case hg => rfl); (case hr => first | (go_simp; done) | (go_simp; rfl)); (case hp => exact (Reps.c3 (show Kd.M k33 _ _ _ (⟨s6, true, false⟩ : S33) [.string s6, .bool true, .bool false] from (k33_mkM _ _ _ (⟨s6, true, false⟩ : S33) )) (Reps.c3 (show Kd.M k33 _ _ _ (⟨(⟨#[42]⟩ : ByteArray), false, false⟩ : S33) [.string (⟨#[42]⟩ : ByteArray), .bool false, .bool false] from (k33_mkM _ _ _ (⟨(⟨#[42]⟩ : ByteArray), false, false⟩ : S33) )) (Reps.c3 (show Kd.M k33 _ _ _ (⟨s9, true, false⟩ : S33) [.string s9, .bool true, .bool false] from (k33_mkM _ _ _ (⟨s9, true, false⟩ : S33) )) (Reps.none _ _))))); intro v115 w44 ho45 hb hg_ hnew_; clear hg_ hnew_; (first | rw [← Ny114.out] at ho45 | (simp only [Int.reduceToNat] at ho45; rw [← Ny114.out] at ho45)); have n0_ := Aside0.mk (Kd.R_lower ho45 (below_size (by repeat (first | (with_reducible first | exact HB.out | apply below_alloc | apply pw_below_drewN | apply below_drew1) | exact HB.out)))); have n1_ := Aside0.mk (below_step (by repeat (first | (with_reducible first | exact HB.out | apply below_alloc | apply pw_below_drewN | apply below_drew1) | exact HB.out)) hb); clear HB; have HO116 := n0_; have HB := n1_; clear n0_ n1_; clear hb ho45) | (go_at_call 17; (with_reducible refine (strings_HasPrefix.calls s12 s6 true _ A16.out).mono ?_); rintro e w46 ⟨rfl, hb⟩; have n0_ := Aside0.mk (Kd.R_below (by (with_reducible repeat (first | apply Kd.R_alloc | apply Kd.R_drewN | apply Kd.R_drew)); exact HO116.out) hb); have n1_ := Aside0.mk (below_step (by repeat (first | (with_reducible first | exact HB.out | apply below_alloc | apply pw_below_drewN | apply below_drew1) | exact HB.out)) hb); clear HO116; clear HB; have HO116 := n0_; have HB := n1_; clear n0_ n1_; (try clear hb); (try clear hb2); (try clear hk); (try clear hi)) | (go_at_call 18; (with_reducible refine (strings_HasSuffix.calls s12 s9 t118 _ A18.out).mono ?_); rintro e w47 ⟨rfl, hb⟩; have n0_ := Aside0.mk (Kd.R_below (by (with_reducible repeat (first | apply Kd.R_alloc | apply Kd.R_drewN | apply Kd.R_drew)); exact HO116.out) hb); have n1_ := Aside0.mk (below_step (by repeat (first | (with_reducible first | exact HB.out | apply below_alloc | apply pw_below_drewN | apply below_drew1) | exact HB.out)) hb); clear HO116; clear HB; have HO116 := n0_; have HB := n1_; clear n0_ n1_; (try clear hb); (try clear hb2); (try clear hk); (try clear hi); obtain ⟨Ao48, co48, eo48⟩ := Kd.R_slice HO116.out; subst eo48) | ((with_reducible refine gate_callee (f := 11) rfl ?_); refine goesL_ (some 52) rfl rfl Try.func11 (by kernel_rfl) rfl #[.slice Ao48 y114.length co48, .string s12] rfl (by (try simp only [List.map_toArray, List.map_cons, List.map_nil]); first | done | (simp only [hji12]; rfl) | rfl | (simp only [List.length_drop, List.length_take]; rfl)) ?_; (with_reducible refine (glob_Match.calls _ _ y114 s12 t119 _ ?side1 ?side2 A19.out).mono ?_); (case side1 => repeat (first | exact (Kd.R_reads' HO116.out).2.2 | (with_reducible refine Kd.C_alloc ?_ _) | (with_reducible refine Kd.C_drewN ?_ _) | (with_reducible refine Kd.C_drew ?_))); (case side2 => exact (Kd.R_reads' HO116.out).2.1); rintro e w49 ⟨rfl, hb⟩; refine ⟨_, rfl, ?_⟩; have n0_ := Aside0.mk (Kd.R_below (by (with_reducible repeat (first | apply Kd.R_alloc | apply Kd.R_drewN | apply Kd.R_drew)); exact HO116.out) hb); have n1_ := Aside0.mk (below_step (by repeat (first | (with_reducible first | exact HB.out | apply below_alloc | apply pw_below_drewN | apply below_drew1) | exact HB.out)) hb); clear HO116; clear HB; have HO116 := n0_; have HB := n1_; clear n0_ n1_; (try clear hb); (try clear hb2); (try clear hk); (try clear hi)))
                      go_ret
                      exact ⟨by first | rfl | (simp [errW_none, errW_some] <;> rfl) | (simp only [← hji6, ← hji9, ← hji12]; first | rfl | (simp [errW_none, errW_some] <;> rfl)) | (simp [*, errW_none, errW_some] <;> rfl), by repeat (first | (with_reducible first | exact HB.out | apply below_alloc | apply pw_below_drewN | apply below_drew1) | exact HB.out)⟩
                  · replace c17 := Bool.eq_false_iff.mpr c17
                    subst c17
                    have H1 : ((glob_Match.f y114 s12).bind fun t122 => (if (t122 == false) = true then (if s6.size + s12.size ≤ 9223372036854775807 then (if (s6 ++ s12).size + s9.size ≤ 9223372036854775807 then ((glob_Match.f y114 ((s6 ++ s12) ++ s9)).bind fun t123 => (if t123 = true then ((glob_Magic.f y114).bind fun t124 => (some t124)) else (some false))) else (none)) else (none)) else (some false))) = some r := by rw [if_neg (show ¬ (false = true) by decide)] at H; exact H
                    clear H
                    have H := H1
                    clear H1
                    replace H := Option.bind_eq_some_iff.mp H
                    obtain ⟨t122, A500, H⟩ := H
                    replace H : (if (t122 == false) = true then (if s6.size + s12.size ≤ 9223372036854775807 then (if (s6 ++ s12).size + s9.size ≤ 9223372036854775807 then ((glob_Match.f y114 ((s6 ++ s12) ++ s9)).bind fun t123 => (if t123 = true then ((glob_Magic.f y114).bind fun t124 => (some t124)) else (some false))) else (none)) else (none)) else (some false)) = some r := H
                    have A50 := Aside0.mk A500
                    clear A500
                    by_cases c51 : (t122 == false) = true
                    · rw [if_pos c51] at H
                      have c51b0 : (t122 == false) = true := c51
                      (try (have c51b1 : decide (t122 = false) = true := by simpa using c51))
                      (try (have c51b2 : (t122 == false) = true := by simpa using c51))
                      clear c51
                      by_cases c52 : s6.size + s12.size ≤ 9223372036854775807
                      · rw [if_pos c52] at H
                        have c52b0 := eq_true c52
                        have c52b1 : decide (s6.size + s12.size ≤ 9223372036854775807) = true := decide_eq_true c52
                        try have c52b2 : (9223372036854775807 < s6.size + s12.size) = False := eq_false (Nat.not_lt.2 c52)
                        by_cases c53 : (s6 ++ s12).size + s9.size ≤ 9223372036854775807
                        · rw [if_pos c53] at H
                          have c53b0 := eq_true c53
                          have c53b1 : decide ((s6 ++ s12).size + s9.size ≤ 9223372036854775807) = true := decide_eq_true c53
                          try have c53b2 : (9223372036854775807 < (s6 ++ s12).size + s9.size) = False := eq_false (Nat.not_lt.2 c53)
                          have c53s : (9223372036854775807 < s6.size + s12.size + s9.size) = False := eq_false (by omega)
                          replace H := Option.bind_eq_some_iff.mp H
                          obtain ⟨t123, A540, H⟩ := H
                          replace H : (if t123 = true then ((glob_Magic.f y114).bind fun t124 => (some t124)) else (some false)) = some r := H
                          have A54 := Aside0.mk A540
                          clear A540
                          by_cases c55 : t123 = true
                          · subst c55
                            have H1 : ((glob_Magic.f y114).bind fun t124 => (some t124)) = some r := by rw [if_pos rfl] at H; exact H
                            clear H
                            have H := H1
                            clear H1
                            replace H := Option.bind_eq_some_iff.mp H
                            obtain ⟨t124, A560, H⟩ := H
                            replace H : (some t124) = some r := H
                            have A56 := Aside0.mk A560
                            clear A560
                            obtain rfl := Option.some.inj H
                            go_enter Try.func5, Try.ntmps5
                            go_wp2_with (first | ((with_reducible refine gate_callee (f := 13) rfl ?_); refine goesL_ (some 9) rfl rfl Try.func13 (by kernel_rfl) rfl #[] rfl (by (try simp only [List.map_toArray, List.map_cons, List.map_nil]); first | done | rfl | (simp only [List.length_drop, List.length_take]; rfl)) ?_; (with_reducible refine (whisklaw14_works.calls  true _ A4.out).mono ?_); rintro e w57 ⟨rfl, hb⟩; refine ⟨_, rfl, ?_⟩; have n0_ := Aside0.mk (below_step (by repeat (first | (with_reducible first | exact HB.out | apply below_alloc | apply pw_below_drewN | apply below_drew1) | exact HB.out)) hb); clear HB; have HB := n0_; clear n0_; (try clear hb); (try clear hb2); (try clear hk); (try clear hi)) | ((with_reducible refine gate_dst (N := 31) rfl ?_); refine Kd.R_lit k33 _ 33 ?hg (N := 31) ?hd (xs := ([(⟨s6, true, false⟩ : S33), (⟨(⟨#[42]⟩ : ByteArray), false, false⟩ : S33), (⟨s9, true, false⟩ : S33)] : List (S33))) (inner := [.string s6, .bool true, .bool false, .string (⟨#[42]⟩ : ByteArray), .bool false, .bool false, .string s9, .bool true, .bool false]) (ok := fun _ => True) (okp := fun _ => True) ?hr ?hp (fun _ hk => hk) trivial (Below.refl _ _) (Nat.le_refl _) (by simp) ?_; (case hd => rfl); (case hg => rfl); (case hr => first | (go_simp; done) | (go_simp; rfl)); (case hp => exact (Reps.c3 (show Kd.M k33 _ _ _ (⟨s6, true, false⟩ : S33) [.string s6, .bool true, .bool false] from (k33_mkM _ _ _ (⟨s6, true, false⟩ : S33) )) (Reps.c3 (show Kd.M k33 _ _ _ (⟨(⟨#[42]⟩ : ByteArray), false, false⟩ : S33) [.string (⟨#[42]⟩ : ByteArray), .bool false, .bool false] from (k33_mkM _ _ _ (⟨(⟨#[42]⟩ : ByteArray), false, false⟩ : S33) )) (Reps.c3 (show Kd.M k33 _ _ _ (⟨s9, true, false⟩ : S33) [.string s9, .bool true, .bool false] from (k33_mkM _ _ _ (⟨s9, true, false⟩ : S33) )) (Reps.none _ _))))); intro v115 w58 ho59 hb hg_ hnew_; clear hg_ hnew_; (first | rw [← Ny114.out] at ho59 | (simp only [Int.reduceToNat] at ho59; rw [← Ny114.out] at ho59)); have n0_ := Aside0.mk (Kd.R_lower ho59 (below_size (by repeat (first | (with_reducible first | exact HB.out | apply below_alloc | apply pw_below_drewN | apply below_drew1) | exact HB.out)))); have n1_ := Aside0.mk (below_step (by repeat (first | (with_reducible first | exact HB.out | apply below_alloc | apply pw_below_drewN | apply below_drew1) | exact HB.out)) hb); clear HB; have HO116 := n0_; have HB := n1_; clear n0_ n1_; clear hb ho59) | (go_at_call 17; (with_reducible refine (strings_HasPrefix.calls s12 s6 false _ A16.out).mono ?_); rintro e w60 ⟨rfl, hb⟩; have n0_ := Aside0.mk (Kd.R_below (by (with_reducible repeat (first | apply Kd.R_alloc | apply Kd.R_drewN | apply Kd.R_drew)); exact HO116.out) hb); have n1_ := Aside0.mk (below_step (by repeat (first | (with_reducible first | exact HB.out | apply below_alloc | apply pw_below_drewN | apply below_drew1) | exact HB.out)) hb); clear HO116; clear HB; have HO116 := n0_; have HB := n1_; clear n0_ n1_; (try clear hb); (try clear hb2); (try clear hk); (try clear hi); obtain ⟨Ao61, co61, eo61⟩ := Kd.R_slice HO116.out; subst eo61) | ((with_reducible refine gate_callee (f := 11) rfl ?_); refine goesL_ (some 52) rfl rfl Try.func11 (by kernel_rfl) rfl #[.slice Ao61 y114.length co61, .string s12] rfl (by (try simp only [List.map_toArray, List.map_cons, List.map_nil]); first | done | (simp only [hji12]; rfl) | rfl | (simp only [List.length_drop, List.length_take]; rfl)) ?_; (with_reducible refine (glob_Match.calls _ _ y114 s12 t122 _ ?side1 ?side2 A50.out).mono ?_); (case side1 => repeat (first | exact (Kd.R_reads' HO116.out).2.2 | (with_reducible refine Kd.C_alloc ?_ _) | (with_reducible refine Kd.C_drewN ?_ _) | (with_reducible refine Kd.C_drew ?_))); (case side2 => exact (Kd.R_reads' HO116.out).2.1); rintro e w62 ⟨rfl, hb⟩; refine ⟨_, rfl, ?_⟩; have n0_ := Aside0.mk (Kd.R_below (by (with_reducible repeat (first | apply Kd.R_alloc | apply Kd.R_drewN | apply Kd.R_drew)); exact HO116.out) hb); have n1_ := Aside0.mk (below_step (by repeat (first | (with_reducible first | exact HB.out | apply below_alloc | apply pw_below_drewN | apply below_drew1) | exact HB.out)) hb); clear HO116; clear HB; have HO116 := n0_; have HB := n1_; clear n0_ n1_; (try clear hb); (try clear hb2); (try clear hk); (try clear hi)) | (go_at_call 11; (with_reducible refine (glob_Match.calls _ _ y114 ((s6 ++ s12) ++ s9) true _ ?side1 ?side2 A54.out).mono ?_); (case side1 => repeat (first | exact (Kd.R_reads' HO116.out).2.2 | (with_reducible refine Kd.C_alloc ?_ _) | (with_reducible refine Kd.C_drewN ?_ _) | (with_reducible refine Kd.C_drew ?_))); (case side2 => exact (Kd.R_reads' HO116.out).2.1); rintro e w63 ⟨rfl, hb⟩; have n0_ := Aside0.mk (Kd.R_below (by (with_reducible repeat (first | apply Kd.R_alloc | apply Kd.R_drewN | apply Kd.R_drew)); exact HO116.out) hb); have n1_ := Aside0.mk (below_step (by repeat (first | (with_reducible first | exact HB.out | apply below_alloc | apply pw_below_drewN | apply below_drew1) | exact HB.out)) hb); clear HO116; clear HB; have HO116 := n0_; have HB := n1_; clear n0_ n1_; (try clear hb); (try clear hb2); (try clear hk); (try clear hi)) | (go_at_call 19; (with_reducible refine (glob_Magic.calls _ _ y114 t124 _ ?side1 ?side2 A56.out).mono ?_); (case side1 => repeat (first | exact (Kd.R_reads' HO116.out).2.2 | (with_reducible refine Kd.C_alloc ?_ _) | (with_reducible refine Kd.C_drewN ?_ _) | (with_reducible refine Kd.C_drew ?_))); (case side2 => exact (Kd.R_reads' HO116.out).2.1); rintro e w64 ⟨rfl, hb⟩; have n0_ := Aside0.mk (Kd.R_below (by (with_reducible repeat (first | apply Kd.R_alloc | apply Kd.R_drewN | apply Kd.R_drew)); exact HO116.out) hb); have n1_ := Aside0.mk (below_step (by repeat (first | (with_reducible first | exact HB.out | apply below_alloc | apply pw_below_drewN | apply below_drew1) | exact HB.out)) hb); clear HO116; clear HB; have HO116 := n0_; have HB := n1_; clear n0_ n1_; (try clear hb); (try clear hb2); (try clear hk); (try clear hi)))
                            go_ret
                            exact ⟨by first | rfl | (simp [errW_none, errW_some] <;> rfl) | (simp only [← hji6, ← hji9, ← hji12]; first | rfl | (simp [errW_none, errW_some] <;> rfl)) | (simp [*, errW_none, errW_some] <;> rfl), by repeat (first | (with_reducible first | exact HB.out | apply below_alloc | apply pw_below_drewN | apply below_drew1) | exact HB.out)⟩
                          · replace c55 := Bool.eq_false_iff.mpr c55
                            subst c55
                            have H1 : (some false) = some r := by rw [if_neg (show ¬ (false = true) by decide)] at H; exact H
                            clear H
                            have H := H1
                            clear H1
                            obtain rfl := Option.some.inj H
                            go_enter Try.func5, Try.ntmps5
                            go_wp2_with (first | ((with_reducible refine gate_callee (f := 13) rfl ?_); refine goesL_ (some 9) rfl rfl Try.func13 (by kernel_rfl) rfl #[] rfl (by (try simp only [List.map_toArray, List.map_cons, List.map_nil]); first | done | rfl | (simp only [List.length_drop, List.length_take]; rfl)) ?_; (with_reducible refine (whisklaw14_works.calls  true _ A4.out).mono ?_); rintro e w65 ⟨rfl, hb⟩; refine ⟨_, rfl, ?_⟩; have n0_ := Aside0.mk (below_step (by repeat (first | (with_reducible first | exact HB.out | apply below_alloc | apply pw_below_drewN | apply below_drew1) | exact HB.out)) hb); clear HB; have HB := n0_; clear n0_; (try clear hb); (try clear hb2); (try clear hk); (try clear hi)) | ((with_reducible refine gate_dst (N := 31) rfl ?_); refine Kd.R_lit k33 _ 33 ?hg (N := 31) ?hd (xs := ([(⟨s6, true, false⟩ : S33), (⟨(⟨#[42]⟩ : ByteArray), false, false⟩ : S33), (⟨s9, true, false⟩ : S33)] : List (S33))) (inner := [.string s6, .bool true, .bool false, .string (⟨#[42]⟩ : ByteArray), .bool false, .bool false, .string s9, .bool true, .bool false]) (ok := fun _ => True) (okp := fun _ => True) ?hr ?hp (fun _ hk => hk) trivial (Below.refl _ _) (Nat.le_refl _) (by simp) ?_; (case hd => rfl); (case hg => rfl); (case hr => first | (go_simp; done) | (go_simp; rfl)); (case hp => exact (Reps.c3 (show Kd.M k33 _ _ _ (⟨s6, true, false⟩ : S33) [.string s6, .bool true, .bool false] from (k33_mkM _ _ _ (⟨s6, true, false⟩ : S33) )) (Reps.c3 (show Kd.M k33 _ _ _ (⟨(⟨#[42]⟩ : ByteArray), false, false⟩ : S33) [.string (⟨#[42]⟩ : ByteArray), .bool false, .bool false] from (k33_mkM _ _ _ (⟨(⟨#[42]⟩ : ByteArray), false, false⟩ : S33) )) (Reps.c3 (show Kd.M k33 _ _ _ (⟨s9, true, false⟩ : S33) [.string s9, .bool true, .bool false] from (k33_mkM _ _ _ (⟨s9, true, false⟩ : S33) )) (Reps.none _ _))))); intro v115 w66 ho67 hb hg_ hnew_; clear hg_ hnew_; (first | rw [← Ny114.out] at ho67 | (simp only [Int.reduceToNat] at ho67; rw [← Ny114.out] at ho67)); have n0_ := Aside0.mk (Kd.R_lower ho67 (below_size (by repeat (first | (with_reducible first | exact HB.out | apply below_alloc | apply pw_below_drewN | apply below_drew1) | exact HB.out)))); have n1_ := Aside0.mk (below_step (by repeat (first | (with_reducible first | exact HB.out | apply below_alloc | apply pw_below_drewN | apply below_drew1) | exact HB.out)) hb); clear HB; have HO116 := n0_; have HB := n1_; clear n0_ n1_; clear hb ho67) | (go_at_call 17; (with_reducible refine (strings_HasPrefix.calls s12 s6 false _ A16.out).mono ?_); rintro e w68 ⟨rfl, hb⟩; have n0_ := Aside0.mk (Kd.R_below (by (with_reducible repeat (first | apply Kd.R_alloc | apply Kd.R_drewN | apply Kd.R_drew)); exact HO116.out) hb); have n1_ := Aside0.mk (below_step (by repeat (first | (with_reducible first | exact HB.out | apply below_alloc | apply pw_below_drewN | apply below_drew1) | exact HB.out)) hb); clear HO116; clear HB; have HO116 := n0_; have HB := n1_; clear n0_ n1_; (try clear hb); (try clear hb2); (try clear hk); (try clear hi); obtain ⟨Ao69, co69, eo69⟩ := Kd.R_slice HO116.out; subst eo69) | ((with_reducible refine gate_callee (f := 11) rfl ?_); refine goesL_ (some 52) rfl rfl Try.func11 (by kernel_rfl) rfl #[.slice Ao69 y114.length co69, .string s12] rfl (by (try simp only [List.map_toArray, List.map_cons, List.map_nil]); first | done | (simp only [hji12]; rfl) | rfl | (simp only [List.length_drop, List.length_take]; rfl)) ?_; (with_reducible refine (glob_Match.calls _ _ y114 s12 t122 _ ?side1 ?side2 A50.out).mono ?_); (case side1 => repeat (first | exact (Kd.R_reads' HO116.out).2.2 | (with_reducible refine Kd.C_alloc ?_ _) | (with_reducible refine Kd.C_drewN ?_ _) | (with_reducible refine Kd.C_drew ?_))); (case side2 => exact (Kd.R_reads' HO116.out).2.1); rintro e w70 ⟨rfl, hb⟩; refine ⟨_, rfl, ?_⟩; have n0_ := Aside0.mk (Kd.R_below (by (with_reducible repeat (first | apply Kd.R_alloc | apply Kd.R_drewN | apply Kd.R_drew)); exact HO116.out) hb); have n1_ := Aside0.mk (below_step (by repeat (first | (with_reducible first | exact HB.out | apply below_alloc | apply pw_below_drewN | apply below_drew1) | exact HB.out)) hb); clear HO116; clear HB; have HO116 := n0_; have HB := n1_; clear n0_ n1_; (try clear hb); (try clear hb2); (try clear hk); (try clear hi)) | (go_at_call 11; (with_reducible refine (glob_Match.calls _ _ y114 ((s6 ++ s12) ++ s9) false _ ?side1 ?side2 A54.out).mono ?_); (case side1 => repeat (first | exact (Kd.R_reads' HO116.out).2.2 | (with_reducible refine Kd.C_alloc ?_ _) | (with_reducible refine Kd.C_drewN ?_ _) | (with_reducible refine Kd.C_drew ?_))); (case side2 => exact (Kd.R_reads' HO116.out).2.1); rintro e w71 ⟨rfl, hb⟩; have n0_ := Aside0.mk (Kd.R_below (by (with_reducible repeat (first | apply Kd.R_alloc | apply Kd.R_drewN | apply Kd.R_drew)); exact HO116.out) hb); have n1_ := Aside0.mk (below_step (by repeat (first | (with_reducible first | exact HB.out | apply below_alloc | apply pw_below_drewN | apply below_drew1) | exact HB.out)) hb); clear HO116; clear HB; have HO116 := n0_; have HB := n1_; clear n0_ n1_; (try clear hb); (try clear hb2); (try clear hk); (try clear hi)))
                            go_ret
                            exact ⟨by first | rfl | (simp [errW_none, errW_some] <;> rfl) | (simp only [← hji6, ← hji9, ← hji12]; first | rfl | (simp [errW_none, errW_some] <;> rfl)) | (simp [*, errW_none, errW_some] <;> rfl), by repeat (first | (with_reducible first | exact HB.out | apply below_alloc | apply pw_below_drewN | apply below_drew1) | exact HB.out)⟩
                        · rw [if_neg c53] at H
                          exact absurd H (by simp)
                      · rw [if_neg c52] at H
                        exact absurd H (by simp)
                    · rw [if_neg c51] at H
                      have c51b0 : (t122 == false) = false := by simpa using c51
                      (try (have c51b1 : decide (t122 = false) = false := by simpa using c51))
                      (try (have c51b2 : (t122 == false) = false := by simpa using c51))
                      (try (have c51b3 : ¬ (t122 = false) := by simpa using c51))
                      clear c51
                      obtain rfl := Option.some.inj H
                      go_enter Try.func5, Try.ntmps5
                      go_wp2_with (first | ((with_reducible refine gate_callee (f := 13) rfl ?_); refine goesL_ (some 9) rfl rfl Try.func13 (by kernel_rfl) rfl #[] rfl (by (try simp only [List.map_toArray, List.map_cons, List.map_nil]); first | done | rfl | (simp only [List.length_drop, List.length_take]; rfl)) ?_; (with_reducible refine (whisklaw14_works.calls  true _ A4.out).mono ?_); rintro e w72 ⟨rfl, hb⟩; refine ⟨_, rfl, ?_⟩; have n0_ := Aside0.mk (below_step (by repeat (first | (with_reducible first | exact HB.out | apply below_alloc | apply pw_below_drewN | apply below_drew1) | exact HB.out)) hb); clear HB; have HB := n0_; clear n0_; (try clear hb); (try clear hb2); (try clear hk); (try clear hi)) | ((with_reducible refine gate_dst (N := 31) rfl ?_); refine Kd.R_lit k33 _ 33 ?hg (N := 31) ?hd (xs := ([(⟨s6, true, false⟩ : S33), (⟨(⟨#[42]⟩ : ByteArray), false, false⟩ : S33), (⟨s9, true, false⟩ : S33)] : List (S33))) (inner := [.string s6, .bool true, .bool false, .string (⟨#[42]⟩ : ByteArray), .bool false, .bool false, .string s9, .bool true, .bool false]) (ok := fun _ => True) (okp := fun _ => True) ?hr ?hp (fun _ hk => hk) trivial (Below.refl _ _) (Nat.le_refl _) (by simp) ?_; (case hd => rfl); (case hg => rfl); (case hr => first | (go_simp; done) | (go_simp; rfl)); (case hp => exact (Reps.c3 (show Kd.M k33 _ _ _ (⟨s6, true, false⟩ : S33) [.string s6, .bool true, .bool false] from (k33_mkM _ _ _ (⟨s6, true, false⟩ : S33) )) (Reps.c3 (show Kd.M k33 _ _ _ (⟨(⟨#[42]⟩ : ByteArray), false, false⟩ : S33) [.string (⟨#[42]⟩ : ByteArray), .bool false, .bool false] from (k33_mkM _ _ _ (⟨(⟨#[42]⟩ : ByteArray), false, false⟩ : S33) )) (Reps.c3 (show Kd.M k33 _ _ _ (⟨s9, true, false⟩ : S33) [.string s9, .bool true, .bool false] from (k33_mkM _ _ _ (⟨s9, true, false⟩ : S33) )) (Reps.none _ _))))); intro v115 w73 ho74 hb hg_ hnew_; clear hg_ hnew_; (first | rw [← Ny114.out] at ho74 | (simp only [Int.reduceToNat] at ho74; rw [← Ny114.out] at ho74)); have n0_ := Aside0.mk (Kd.R_lower ho74 (below_size (by repeat (first | (with_reducible first | exact HB.out | apply below_alloc | apply pw_below_drewN | apply below_drew1) | exact HB.out)))); have n1_ := Aside0.mk (below_step (by repeat (first | (with_reducible first | exact HB.out | apply below_alloc | apply pw_below_drewN | apply below_drew1) | exact HB.out)) hb); clear HB; have HO116 := n0_; have HB := n1_; clear n0_ n1_; clear hb ho74) | (go_at_call 17; (with_reducible refine (strings_HasPrefix.calls s12 s6 false _ A16.out).mono ?_); rintro e w75 ⟨rfl, hb⟩; have n0_ := Aside0.mk (Kd.R_below (by (with_reducible repeat (first | apply Kd.R_alloc | apply Kd.R_drewN | apply Kd.R_drew)); exact HO116.out) hb); have n1_ := Aside0.mk (below_step (by repeat (first | (with_reducible first | exact HB.out | apply below_alloc | apply pw_below_drewN | apply below_drew1) | exact HB.out)) hb); clear HO116; clear HB; have HO116 := n0_; have HB := n1_; clear n0_ n1_; (try clear hb); (try clear hb2); (try clear hk); (try clear hi); obtain ⟨Ao76, co76, eo76⟩ := Kd.R_slice HO116.out; subst eo76) | ((with_reducible refine gate_callee (f := 11) rfl ?_); refine goesL_ (some 52) rfl rfl Try.func11 (by kernel_rfl) rfl #[.slice Ao76 y114.length co76, .string s12] rfl (by (try simp only [List.map_toArray, List.map_cons, List.map_nil]); first | done | (simp only [hji12]; rfl) | rfl | (simp only [List.length_drop, List.length_take]; rfl)) ?_; (with_reducible refine (glob_Match.calls _ _ y114 s12 t122 _ ?side1 ?side2 A50.out).mono ?_); (case side1 => repeat (first | exact (Kd.R_reads' HO116.out).2.2 | (with_reducible refine Kd.C_alloc ?_ _) | (with_reducible refine Kd.C_drewN ?_ _) | (with_reducible refine Kd.C_drew ?_))); (case side2 => exact (Kd.R_reads' HO116.out).2.1); rintro e w77 ⟨rfl, hb⟩; refine ⟨_, rfl, ?_⟩; have n0_ := Aside0.mk (Kd.R_below (by (with_reducible repeat (first | apply Kd.R_alloc | apply Kd.R_drewN | apply Kd.R_drew)); exact HO116.out) hb); have n1_ := Aside0.mk (below_step (by repeat (first | (with_reducible first | exact HB.out | apply below_alloc | apply pw_below_drewN | apply below_drew1) | exact HB.out)) hb); clear HO116; clear HB; have HO116 := n0_; have HB := n1_; clear n0_ n1_; (try clear hb); (try clear hb2); (try clear hk); (try clear hi)))
                      go_ret
                      exact ⟨by first | rfl | (simp [errW_none, errW_some] <;> rfl) | (simp only [← hji6, ← hji9, ← hji12]; first | rfl | (simp [errW_none, errW_some] <;> rfl)) | (simp [*, errW_none, errW_some] <;> rfl), by repeat (first | (with_reducible first | exact HB.out | apply below_alloc | apply pw_below_drewN | apply below_drew1) | exact HB.out)⟩
                · rw [if_neg c15] at H
                  have c15b0 : decide ((wrap64 ((s6.size : Int) + (s9.size : Int))) ≤ (s12.size : Int)) = false := decide_eq_false c15
                  have c15s : decide ((s6.size : Int) + (s9.size : Int) ≤ (s12.size : Int)) = false := by (have e : wrap64 ((s6.size : Int) + (s9.size : Int)) = (s6.size : Int) + (s9.size : Int) := (by unfold wrap64; omega)); rw [← e]; exact c15b0
                  clear c15
                  replace H := Option.bind_eq_some_iff.mp H
                  obtain ⟨t125, A780, H⟩ := H
                  replace H : (if (t125 == false) = true then (if s6.size + s12.size ≤ 9223372036854775807 then (if (s6 ++ s12).size + s9.size ≤ 9223372036854775807 then ((glob_Match.f y114 ((s6 ++ s12) ++ s9)).bind fun t126 => (if t126 = true then ((glob_Magic.f y114).bind fun t127 => (some t127)) else (some false))) else (none)) else (none)) else (some false)) = some r := H
                  have A78 := Aside0.mk A780
                  clear A780
                  by_cases c79 : (t125 == false) = true
                  · rw [if_pos c79] at H
                    have c79b0 : (t125 == false) = true := c79
                    (try (have c79b1 : decide (t125 = false) = true := by simpa using c79))
                    (try (have c79b2 : (t125 == false) = true := by simpa using c79))
                    clear c79
                    by_cases c80 : s6.size + s12.size ≤ 9223372036854775807
                    · rw [if_pos c80] at H
                      have c80b0 := eq_true c80
                      have c80b1 : decide (s6.size + s12.size ≤ 9223372036854775807) = true := decide_eq_true c80
                      try have c80b2 : (9223372036854775807 < s6.size + s12.size) = False := eq_false (Nat.not_lt.2 c80)
                      by_cases c81 : (s6 ++ s12).size + s9.size ≤ 9223372036854775807
                      · rw [if_pos c81] at H
                        have c81b0 := eq_true c81
                        have c81b1 : decide ((s6 ++ s12).size + s9.size ≤ 9223372036854775807) = true := decide_eq_true c81
                        try have c81b2 : (9223372036854775807 < (s6 ++ s12).size + s9.size) = False := eq_false (Nat.not_lt.2 c81)
                        have c81s : (9223372036854775807 < s6.size + s12.size + s9.size) = False := eq_false (by omega)
                        replace H := Option.bind_eq_some_iff.mp H
                        obtain ⟨t126, A820, H⟩ := H
                        replace H : (if t126 = true then ((glob_Magic.f y114).bind fun t127 => (some t127)) else (some false)) = some r := H
                        have A82 := Aside0.mk A820
                        clear A820
                        by_cases c83 : t126 = true
                        · subst c83
                          have H1 : ((glob_Magic.f y114).bind fun t127 => (some t127)) = some r := by rw [if_pos rfl] at H; exact H
                          clear H
                          have H := H1
                          clear H1
                          replace H := Option.bind_eq_some_iff.mp H
                          obtain ⟨t127, A840, H⟩ := H
                          replace H : (some t127) = some r := H
                          have A84 := Aside0.mk A840
                          clear A840
                          obtain rfl := Option.some.inj H
                          go_enter Try.func5, Try.ntmps5
                          go_wp2_with (first | ((with_reducible refine gate_callee (f := 13) rfl ?_); refine goesL_ (some 9) rfl rfl Try.func13 (by kernel_rfl) rfl #[] rfl (by (try simp only [List.map_toArray, List.map_cons, List.map_nil]); first | done | rfl | (simp only [List.length_drop, List.length_take]; rfl)) ?_; (with_reducible refine (whisklaw14_works.calls  true _ A4.out).mono ?_); rintro e w85 ⟨rfl, hb⟩; refine ⟨_, rfl, ?_⟩; have n0_ := Aside0.mk (below_step (by repeat (first | (with_reducible first | exact HB.out | apply below_alloc | apply pw_below_drewN | apply below_drew1) | exact HB.out)) hb); clear HB; have HB := n0_; clear n0_; (try clear hb); (try clear hb2); (try clear hk); (try clear hi)) | ((with_reducible refine gate_dst (N := 31) rfl ?_); refine Kd.R_lit k33 _ 33 ?hg (N := 31) ?hd (xs := ([(⟨s6, true, false⟩ : S33), (⟨(⟨#[42]⟩ : ByteArray), false, false⟩ : S33), (⟨s9, true, false⟩ : S33)] : List (S33))) (inner := [.string s6, .bool true, .bool false, .string (⟨#[42]⟩ : ByteArray), .bool false, .bool false, .string s9, .bool true, .bool false]) (ok := fun _ => True) (okp := fun _ => True) ?hr ?hp (fun _ hk => hk) trivial (Below.refl _ _) (Nat.le_refl _) (by simp) ?_; (case hd => rfl); (case hg => rfl); (case hr => first | (go_simp; done) | (go_simp; rfl)); (case hp => exact (Reps.c3 (show Kd.M k33 _ _ _ (⟨s6, true, false⟩ : S33) [.string s6, .bool true, .bool false] from (k33_mkM _ _ _ (⟨s6, true, false⟩ : S33) )) (Reps.c3 (show Kd.M k33 _ _ _ (⟨(⟨#[42]⟩ : ByteArray), false, false⟩ : S33) [.string (⟨#[42]⟩ : ByteArray), .bool false, .bool false] from (k33_mkM _ _ _ (⟨(⟨#[42]⟩ : ByteArray), false, false⟩ : S33) )) (Reps.c3 (show Kd.M k33 _ _ _ (⟨s9, true, false⟩ : S33) [.string s9, .bool true, .bool false] from (k33_mkM _ _ _ (⟨s9, true, false⟩ : S33) )) (Reps.none _ _))))); intro v115 w86 ho87 hb hg_ hnew_; clear hg_ hnew_; (first | rw [← Ny114.out] at ho87 | (simp only [Int.reduceToNat] at ho87; rw [← Ny114.out] at ho87)); have n0_ := Aside0.mk (Kd.R_lower ho87 (below_size (by repeat (first | (with_reducible first | exact HB.out | apply below_alloc | apply pw_below_drewN | apply below_drew1) | exact HB.out)))); have n1_ := Aside0.mk (below_step (by repeat (first | (with_reducible first | exact HB.out | apply below_alloc | apply pw_below_drewN | apply below_drew1) | exact HB.out)) hb); clear HB; have HO116 := n0_; have HB := n1_; clear n0_ n1_; clear hb ho87; obtain ⟨Ao88, co88, eo88⟩ := Kd.R_slice HO116.out; subst eo88) | ((with_reducible refine gate_callee (f := 11) rfl ?_); refine goesL_ (some 52) rfl rfl Try.func11 (by kernel_rfl) rfl #[.slice Ao88 y114.length co88, .string s12] rfl (by (try simp only [List.map_toArray, List.map_cons, List.map_nil]); first | done | (simp only [hji12]; rfl) | rfl | (simp only [List.length_drop, List.length_take]; rfl)) ?_; (with_reducible refine (glob_Match.calls _ _ y114 s12 t125 _ ?side1 ?side2 A78.out).mono ?_); (case side1 => repeat (first | exact (Kd.R_reads' HO116.out).2.2 | (with_reducible refine Kd.C_alloc ?_ _) | (with_reducible refine Kd.C_drewN ?_ _) | (with_reducible refine Kd.C_drew ?_))); (case side2 => exact (Kd.R_reads' HO116.out).2.1); rintro e w89 ⟨rfl, hb⟩; refine ⟨_, rfl, ?_⟩; have n0_ := Aside0.mk (Kd.R_below (by (with_reducible repeat (first | apply Kd.R_alloc | apply Kd.R_drewN | apply Kd.R_drew)); exact HO116.out) hb); have n1_ := Aside0.mk (below_step (by repeat (first | (with_reducible first | exact HB.out | apply below_alloc | apply pw_below_drewN | apply below_drew1) | exact HB.out)) hb); clear HO116; clear HB; have HO116 := n0_; have HB := n1_; clear n0_ n1_; (try clear hb); (try clear hb2); (try clear hk); (try clear hi)) | (go_at_call 11; (with_reducible refine (glob_Match.calls _ _ y114 ((s6 ++ s12) ++ s9) true _ ?side1 ?side2 A82.out).mono ?_); (case side1 => repeat (first | exact (Kd.R_reads' HO116.out).2.2 | (with_reducible refine Kd.C_alloc ?_ _) | (with_reducible refine Kd.C_drewN ?_ _) | (with_reducible refine Kd.C_drew ?_))); (case side2 => exact (Kd.R_reads' HO116.out).2.1); rintro e w90 ⟨rfl, hb⟩; have n0_ := Aside0.mk (Kd.R_below (by (with_reducible repeat (first | apply Kd.R_alloc | apply Kd.R_drewN | apply Kd.R_drew)); exact HO116.out) hb); have n1_ := Aside0.mk (below_step (by repeat (first | (with_reducible first | exact HB.out | apply below_alloc | apply pw_below_drewN | apply below_drew1) | exact HB.out)) hb); clear HO116; clear HB; have HO116 := n0_; have HB := n1_; clear n0_ n1_; (try clear hb); (try clear hb2); (try clear hk); (try clear hi)) | (go_at_call 19; (with_reducible refine (glob_Magic.calls _ _ y114 t127 _ ?side1 ?side2 A84.out).mono ?_); (case side1 => repeat (first | exact (Kd.R_reads' HO116.out).2.2 | (with_reducible refine Kd.C_alloc ?_ _) | (with_reducible refine Kd.C_drewN ?_ _) | (with_reducible refine Kd.C_drew ?_))); (case side2 => exact (Kd.R_reads' HO116.out).2.1); rintro e w91 ⟨rfl, hb⟩; have n0_ := Aside0.mk (Kd.R_below (by (with_reducible repeat (first | apply Kd.R_alloc | apply Kd.R_drewN | apply Kd.R_drew)); exact HO116.out) hb); have n1_ := Aside0.mk (below_step (by repeat (first | (with_reducible first | exact HB.out | apply below_alloc | apply pw_below_drewN | apply below_drew1) | exact HB.out)) hb); clear HO116; clear HB; have HO116 := n0_; have HB := n1_; clear n0_ n1_; (try clear hb); (try clear hb2); (try clear hk); (try clear hi)))
                          go_ret
                          exact ⟨by first | rfl | (simp [errW_none, errW_some] <;> rfl) | (simp only [← hji6, ← hji9, ← hji12]; first | rfl | (simp [errW_none, errW_some] <;> rfl)) | (simp [*, errW_none, errW_some] <;> rfl), by repeat (first | (with_reducible first | exact HB.out | apply below_alloc | apply pw_below_drewN | apply below_drew1) | exact HB.out)⟩
                        · replace c83 := Bool.eq_false_iff.mpr c83
                          subst c83
                          have H1 : (some false) = some r := by rw [if_neg (show ¬ (false = true) by decide)] at H; exact H
                          clear H
                          have H := H1
                          clear H1
                          obtain rfl := Option.some.inj H
                          go_enter Try.func5, Try.ntmps5
                          go_wp2_with (first | ((with_reducible refine gate_callee (f := 13) rfl ?_); refine goesL_ (some 9) rfl rfl Try.func13 (by kernel_rfl) rfl #[] rfl (by (try simp only [List.map_toArray, List.map_cons, List.map_nil]); first | done | rfl | (simp only [List.length_drop, List.length_take]; rfl)) ?_; (with_reducible refine (whisklaw14_works.calls  true _ A4.out).mono ?_); rintro e w92 ⟨rfl, hb⟩; refine ⟨_, rfl, ?_⟩; have n0_ := Aside0.mk (below_step (by repeat (first | (with_reducible first | exact HB.out | apply below_alloc | apply pw_below_drewN | apply below_drew1) | exact HB.out)) hb); clear HB; have HB := n0_; clear n0_; (try clear hb); (try clear hb2); (try clear hk); (try clear hi)) | ((with_reducible refine gate_dst (N := 31) rfl ?_); refine Kd.R_lit k33 _ 33 ?hg (N := 31) ?hd (xs := ([(⟨s6, true, false⟩ : S33), (⟨(⟨#[42]⟩ : ByteArray), false, false⟩ : S33), (⟨s9, true, false⟩ : S33)] : List (S33))) (inner := [.string s6, .bool true, .bool false, .string (⟨#[42]⟩ : ByteArray), .bool false, .bool false, .string s9, .bool true, .bool false]) (ok := fun _ => True) (okp := fun _ => True) ?hr ?hp (fun _ hk => hk) trivial (Below.refl _ _) (Nat.le_refl _) (by simp) ?_; (case hd => rfl); (case hg => rfl); (case hr => first | (go_simp; done) | (go_simp; rfl)); (case hp => exact (Reps.c3 (show Kd.M k33 _ _ _ (⟨s6, true, false⟩ : S33) [.string s6, .bool true, .bool false] from (k33_mkM _ _ _ (⟨s6, true, false⟩ : S33) )) (Reps.c3 (show Kd.M k33 _ _ _ (⟨(⟨#[42]⟩ : ByteArray), false, false⟩ : S33) [.string (⟨#[42]⟩ : ByteArray), .bool false, .bool false] from (k33_mkM _ _ _ (⟨(⟨#[42]⟩ : ByteArray), false, false⟩ : S33) )) (Reps.c3 (show Kd.M k33 _ _ _ (⟨s9, true, false⟩ : S33) [.string s9, .bool true, .bool false] from (k33_mkM _ _ _ (⟨s9, true, false⟩ : S33) )) (Reps.none _ _))))); intro v115 w93 ho94 hb hg_ hnew_; clear hg_ hnew_; (first | rw [← Ny114.out] at ho94 | (simp only [Int.reduceToNat] at ho94; rw [← Ny114.out] at ho94)); have n0_ := Aside0.mk (Kd.R_lower ho94 (below_size (by repeat (first | (with_reducible first | exact HB.out | apply below_alloc | apply pw_below_drewN | apply below_drew1) | exact HB.out)))); have n1_ := Aside0.mk (below_step (by repeat (first | (with_reducible first | exact HB.out | apply below_alloc | apply pw_below_drewN | apply below_drew1) | exact HB.out)) hb); clear HB; have HO116 := n0_; have HB := n1_; clear n0_ n1_; clear hb ho94; obtain ⟨Ao95, co95, eo95⟩ := Kd.R_slice HO116.out; subst eo95) | ((with_reducible refine gate_callee (f := 11) rfl ?_); refine goesL_ (some 52) rfl rfl Try.func11 (by kernel_rfl) rfl #[.slice Ao95 y114.length co95, .string s12] rfl (by (try simp only [List.map_toArray, List.map_cons, List.map_nil]); first | done | (simp only [hji12]; rfl) | rfl | (simp only [List.length_drop, List.length_take]; rfl)) ?_; (with_reducible refine (glob_Match.calls _ _ y114 s12 t125 _ ?side1 ?side2 A78.out).mono ?_); (case side1 => repeat (first | exact (Kd.R_reads' HO116.out).2.2 | (with_reducible refine Kd.C_alloc ?_ _) | (with_reducible refine Kd.C_drewN ?_ _) | (with_reducible refine Kd.C_drew ?_))); (case side2 => exact (Kd.R_reads' HO116.out).2.1); rintro e w96 ⟨rfl, hb⟩; refine ⟨_, rfl, ?_⟩; have n0_ := Aside0.mk (Kd.R_below (by (with_reducible repeat (first | apply Kd.R_alloc | apply Kd.R_drewN | apply Kd.R_drew)); exact HO116.out) hb); have n1_ := Aside0.mk (below_step (by repeat (first | (with_reducible first | exact HB.out | apply below_alloc | apply pw_below_drewN | apply below_drew1) | exact HB.out)) hb); clear HO116; clear HB; have HO116 := n0_; have HB := n1_; clear n0_ n1_; (try clear hb); (try clear hb2); (try clear hk); (try clear hi)) | (go_at_call 11; (with_reducible refine (glob_Match.calls _ _ y114 ((s6 ++ s12) ++ s9) false _ ?side1 ?side2 A82.out).mono ?_); (case side1 => repeat (first | exact (Kd.R_reads' HO116.out).2.2 | (with_reducible refine Kd.C_alloc ?_ _) | (with_reducible refine Kd.C_drewN ?_ _) | (with_reducible refine Kd.C_drew ?_))); (case side2 => exact (Kd.R_reads' HO116.out).2.1); rintro e w97 ⟨rfl, hb⟩; have n0_ := Aside0.mk (Kd.R_below (by (with_reducible repeat (first | apply Kd.R_alloc | apply Kd.R_drewN | apply Kd.R_drew)); exact HO116.out) hb); have n1_ := Aside0.mk (below_step (by repeat (first | (with_reducible first | exact HB.out | apply below_alloc | apply pw_below_drewN | apply below_drew1) | exact HB.out)) hb); clear HO116; clear HB; have HO116 := n0_; have HB := n1_; clear n0_ n1_; (try clear hb); (try clear hb2); (try clear hk); (try clear hi)))
                          go_ret
                          exact ⟨by first | rfl | (simp [errW_none, errW_some] <;> rfl) | (simp only [← hji6, ← hji9, ← hji12]; first | rfl | (simp [errW_none, errW_some] <;> rfl)) | (simp [*, errW_none, errW_some] <;> rfl), by repeat (first | (with_reducible first | exact HB.out | apply below_alloc | apply pw_below_drewN | apply below_drew1) | exact HB.out)⟩
                      · rw [if_neg c81] at H
                        exact absurd H (by simp)
                    · rw [if_neg c80] at H
                      exact absurd H (by simp)
                  · rw [if_neg c79] at H
                    have c79b0 : (t125 == false) = false := by simpa using c79
                    (try (have c79b1 : decide (t125 = false) = false := by simpa using c79))
                    (try (have c79b2 : (t125 == false) = false := by simpa using c79))
                    (try (have c79b3 : ¬ (t125 = false) := by simpa using c79))
                    clear c79
                    obtain rfl := Option.some.inj H
                    go_enter Try.func5, Try.ntmps5
                    go_wp2_with (first | ((with_reducible refine gate_callee (f := 13) rfl ?_); refine goesL_ (some 9) rfl rfl Try.func13 (by kernel_rfl) rfl #[] rfl (by (try simp only [List.map_toArray, List.map_cons, List.map_nil]); first | done | rfl | (simp only [List.length_drop, List.length_take]; rfl)) ?_; (with_reducible refine (whisklaw14_works.calls  true _ A4.out).mono ?_); rintro e w98 ⟨rfl, hb⟩; refine ⟨_, rfl, ?_⟩; have n0_ := Aside0.mk (below_step (by repeat (first | (with_reducible first | exact HB.out | apply below_alloc | apply pw_below_drewN | apply below_drew1) | exact HB.out)) hb); clear HB; have HB := n0_; clear n0_; (try clear hb); (try clear hb2); (try clear hk); (try clear hi)) | ((with_reducible refine gate_dst (N := 31) rfl ?_); refine Kd.R_lit k33 _ 33 ?hg (N := 31) ?hd (xs := ([(⟨s6, true, false⟩ : S33), (⟨(⟨#[42]⟩ : ByteArray), false, false⟩ : S33), (⟨s9, true, false⟩ : S33)] : List (S33))) (inner := [.string s6, .bool true, .bool false, .string (⟨#[42]⟩ : ByteArray), .bool false, .bool false, .string s9, .bool true, .bool false]) (ok := fun _ => True) (okp := fun _ => True) ?hr ?hp (fun _ hk => hk) trivial (Below.refl _ _) (Nat.le_refl _) (by simp) ?_; (case hd => rfl); (case hg => rfl); (case hr => first | (go_simp; done) | (go_simp; rfl)); (case hp => exact (Reps.c3 (show Kd.M k33 _ _ _ (⟨s6, true, false⟩ : S33) [.string s6, .bool true, .bool false] from (k33_mkM _ _ _ (⟨s6, true, false⟩ : S33) )) (Reps.c3 (show Kd.M k33 _ _ _ (⟨(⟨#[42]⟩ : ByteArray), false, false⟩ : S33) [.string (⟨#[42]⟩ : ByteArray), .bool false, .bool false] from (k33_mkM _ _ _ (⟨(⟨#[42]⟩ : ByteArray), false, false⟩ : S33) )) (Reps.c3 (show Kd.M k33 _ _ _ (⟨s9, true, false⟩ : S33) [.string s9, .bool true, .bool false] from (k33_mkM _ _ _ (⟨s9, true, false⟩ : S33) )) (Reps.none _ _))))); intro v115 w99 ho100 hb hg_ hnew_; clear hg_ hnew_; (first | rw [← Ny114.out] at ho100 | (simp only [Int.reduceToNat] at ho100; rw [← Ny114.out] at ho100)); have n0_ := Aside0.mk (Kd.R_lower ho100 (below_size (by repeat (first | (with_reducible first | exact HB.out | apply below_alloc | apply pw_below_drewN | apply below_drew1) | exact HB.out)))); have n1_ := Aside0.mk (below_step (by repeat (first | (with_reducible first | exact HB.out | apply below_alloc | apply pw_below_drewN | apply below_drew1) | exact HB.out)) hb); clear HB; have HO116 := n0_; have HB := n1_; clear n0_ n1_; clear hb ho100; obtain ⟨Ao101, co101, eo101⟩ := Kd.R_slice HO116.out; subst eo101) | ((with_reducible refine gate_callee (f := 11) rfl ?_); refine goesL_ (some 52) rfl rfl Try.func11 (by kernel_rfl) rfl #[.slice Ao101 y114.length co101, .string s12] rfl (by (try simp only [List.map_toArray, List.map_cons, List.map_nil]); first | done | (simp only [hji12]; rfl) | rfl | (simp only [List.length_drop, List.length_take]; rfl)) ?_; (with_reducible refine (glob_Match.calls _ _ y114 s12 t125 _ ?side1 ?side2 A78.out).mono ?_); (case side1 => repeat (first | exact (Kd.R_reads' HO116.out).2.2 | (with_reducible refine Kd.C_alloc ?_ _) | (with_reducible refine Kd.C_drewN ?_ _) | (with_reducible refine Kd.C_drew ?_))); (case side2 => exact (Kd.R_reads' HO116.out).2.1); rintro e w102 ⟨rfl, hb⟩; refine ⟨_, rfl, ?_⟩; have n0_ := Aside0.mk (Kd.R_below (by (with_reducible repeat (first | apply Kd.R_alloc | apply Kd.R_drewN | apply Kd.R_drew)); exact HO116.out) hb); have n1_ := Aside0.mk (below_step (by repeat (first | (with_reducible first | exact HB.out | apply below_alloc | apply pw_below_drewN | apply below_drew1) | exact HB.out)) hb); clear HO116; clear HB; have HO116 := n0_; have HB := n1_; clear n0_ n1_; (try clear hb); (try clear hb2); (try clear hk); (try clear hi)))
                    go_ret
                    exact ⟨by first | rfl | (simp [errW_none, errW_some] <;> rfl) | (simp only [← hji6, ← hji9, ← hji12]; first | rfl | (simp [errW_none, errW_some] <;> rfl)) | (simp [*, errW_none, errW_some] <;> rfl), by repeat (first | (with_reducible first | exact HB.out | apply below_alloc | apply pw_below_drewN | apply below_drew1) | exact HB.out)⟩
              · rw [if_neg c14] at H
                exact absurd H (by simp)
            · rw [if_neg c13] at H
              exact absurd H (by simp)
          · rw [if_neg c11] at H
            exact absurd H (by simp)
        · rw [if_neg c10] at H
          exact absurd H (by simp)
      · rw [if_neg c8] at H
        exact absurd H (by simp)
    · rw [if_neg c7] at H
      exact absurd H (by simp)
  · replace c5 := Bool.eq_false_iff.mpr c5
    subst c5
    have H1 : (some false) = some r := by rw [if_neg (show ¬ (false = true) by decide)] at H; exact H
    clear H
    have H := H1
    clear H1
    obtain rfl := Option.some.inj H
    go_enter Try.func5, Try.ntmps5
    go_wp2_with (first | ((with_reducible refine gate_callee (f := 13) rfl ?_); refine goesL_ (some 9) rfl rfl Try.func13 (by kernel_rfl) rfl #[] rfl (by (try simp only [List.map_toArray, List.map_cons, List.map_nil]); first | done | rfl | (simp only [List.length_drop, List.length_take]; rfl)) ?_; (with_reducible refine (whisklaw14_works.calls  false _ A4.out).mono ?_); rintro e w103 ⟨rfl, hb⟩; refine ⟨_, rfl, ?_⟩; have n0_ := Aside0.mk (below_step (by repeat (first | (with_reducible first | exact HB.out | apply below_alloc | apply pw_below_drewN | apply below_drew1) | exact HB.out)) hb); clear HB; have HB := n0_; clear n0_; (try clear hb); (try clear hb2); (try clear hk); (try clear hi)))
    go_ret
    exact ⟨by first | rfl | (simp [errW_none, errW_some] <;> rfl) | (simp [*, errW_none, errW_some] <;> rfl), by repeat (first | (with_reducible first | exact HB.out | apply below_alloc | apply pw_below_drewN | apply below_drew1) | exact HB.out)⟩

/-- THE ONE PURE STATEMENT of whisklaw14_GlobStar: yours. -/
def whisklaw14_GlobStar.Pure : Prop := ∀ (a0 : ByteArray) (a1 : ByteArray) (a2 : ByteArray), a0.size ≤ 140737488351232 → a1.size ≤ 140737488351232 → a2.size ≤ 140737488351232 → whisklaw14_GlobStar.f a0 a1 a2 = some true
theorem whisklaw14_GlobStar.walk (P : whisklaw14_GlobStar.Pure) (a0 : ByteArray) (a1 : ByteArray) (a2 : ByteArray) (w : World) (w0 : a0.size ≤ 140737488351232) (w1 : a1.size ≤ 140737488351232) (w2 : a2.size ≤ 140737488351232) :
    Calls Try.prog 5 #[.string a0, .string a1, .string a2] w fun e w' => e = .returned (.bool true) ∧ Below w.heap.size w w' := by
  have h := P a0 a1 a2 w0 w1 w2
  refine (whisklaw14_GlobStar.calls a0 a1 a2 true w h).mono ?_
  rintro e w' ⟨rfl, hd⟩
  exact ⟨rfl, hd⟩

end Go.Proofs.Ythbnnlhkcaomlaa.PGlobStar
