/- The walk of ExpandKnown. -/
import Derived.Test.YthbnnlhkcaomlaaDoorExKnownP
namespace Go.Proofs.YthbnnlhkcaomlaaDoor.Ex
open Go.RowKit Go.Shelf Go.Proofs.YthbnnlhkcaomlaaDoorW.PrintWords Go.Proofs.YthbnnlhkcaomlaaDoor.Gl

/-- Words in memory. -/
def Words (w : World) (l : List (Option Addr × Nat × List PartT)) : Prop := ∀ x, x ∈ l → WordAt 3 (fun _ => True) w x.1 x.2.1 x.2.2
theorem Words.below {w w' : World} {l : List (Option Addr × Nat × List PartT)} (h : Words w l) (hb : Below w.heap.size w w') : Words w' l := fun x hx => (h x hx).below hb
theorem Words.cons {w : World} {l : List (Option Addr × Nat × List PartT)} {A : Option Addr} {n : Nat} {ps : List PartT} (h : Words w l) (hx : WordAt 3 (fun _ => True) w A n ps) : Words w ((A, n, ps) :: l) := by
  intro x hm
  rcases List.mem_cons.1 hm with e | hm
  · subst e; exact hx
  · exact h x hm
theorem word_nil (d : Nat) (P : Nat → Prop) (w : World) : WordAt d P w none 0 [] := ⟨rfl, by decide, fun h => absurd h (Nat.lt_irrefl _)⟩
section
variable {d : Nat} {w : World} {N : Nat} {a0 a1 a2 a3 a4 a5 b0 b1 b2 b3 b4 b5 c0 c1 c2 c3 c4 c5 e0 e1 e2 e3 e4 e5 : Value} {p q r s : PartT}
theorem row1 (h : w.heap[N]? = some (.cells #[a0, a1, a2, a3, a4, a5] 47 (0, 0))) (hp : PartAt d (fun _ => True) w p [a0, a1, a2, a3, a4, a5]) : WordAt d (fun _ => True) w (some ⟨N, 0, none⟩) 1 [p] :=
  word_row (ps := [p]) (rows := [[a0, a1, a2, a3, a4, a5]]) h trivial (by show (1 : Nat) ≤ 1000; omega) rfl rfl (fun j q qs h1 h2 => by
    match j, h1, h2 with
    | 0, h1, h2 => cases h1; cases h2; exact ⟨rfl, hp⟩)
theorem row2 (h : w.heap[N]? = some (.cells #[a0, a1, a2, a3, a4, a5, b0, b1, b2, b3, b4, b5] 47 (0, 0))) (hp : PartAt d (fun _ => True) w p [a0, a1, a2, a3, a4, a5]) (hq : PartAt d (fun _ => True) w q [b0, b1, b2, b3, b4, b5]) : WordAt d (fun _ => True) w (some ⟨N, 0, none⟩) 2 [p, q] :=
  word_row (ps := [p, q]) (rows := [[a0, a1, a2, a3, a4, a5], [b0, b1, b2, b3, b4, b5]]) h trivial (by show (2 : Nat) ≤ 1000; omega) rfl rfl (fun j q qs h1 h2 => by
    match j, h1, h2 with
    | 0, h1, h2 => cases h1; cases h2; exact ⟨rfl, hp⟩
    | 1, h1, h2 => cases h1; cases h2; exact ⟨rfl, hq⟩)
theorem row3 (h : w.heap[N]? = some (.cells #[a0, a1, a2, a3, a4, a5, b0, b1, b2, b3, b4, b5, c0, c1, c2, c3, c4, c5] 47 (0, 0))) (hp : PartAt d (fun _ => True) w p [a0, a1, a2, a3, a4, a5]) (hq : PartAt d (fun _ => True) w q [b0, b1, b2, b3, b4, b5]) (hr : PartAt d (fun _ => True) w r [c0, c1, c2, c3, c4, c5]) : WordAt d (fun _ => True) w (some ⟨N, 0, none⟩) 3 [p, q, r] :=
  word_row (ps := [p, q, r]) (rows := [[a0, a1, a2, a3, a4, a5], [b0, b1, b2, b3, b4, b5], [c0, c1, c2, c3, c4, c5]]) h trivial (by show (3 : Nat) ≤ 1000; omega) rfl rfl (fun j q qs h1 h2 => by
    match j, h1, h2 with
    | 0, h1, h2 => cases h1; cases h2; exact ⟨rfl, hp⟩
    | 1, h1, h2 => cases h1; cases h2; exact ⟨rfl, hq⟩
    | 2, h1, h2 => cases h1; cases h2; exact ⟨rfl, hr⟩)
theorem row4 (h : w.heap[N]? = some (.cells #[a0, a1, a2, a3, a4, a5, b0, b1, b2, b3, b4, b5, c0, c1, c2, c3, c4, c5, e0, e1, e2, e3, e4, e5] 47 (0, 0))) (hp : PartAt d (fun _ => True) w p [a0, a1, a2, a3, a4, a5]) (hq : PartAt d (fun _ => True) w q [b0, b1, b2, b3, b4, b5]) (hr : PartAt d (fun _ => True) w r [c0, c1, c2, c3, c4, c5]) (hs : PartAt d (fun _ => True) w s [e0, e1, e2, e3, e4, e5]) : WordAt d (fun _ => True) w (some ⟨N, 0, none⟩) 4 [p, q, r, s] :=
  word_row (ps := [p, q, r, s]) (rows := [[a0, a1, a2, a3, a4, a5], [b0, b1, b2, b3, b4, b5], [c0, c1, c2, c3, c4, c5], [e0, e1, e2, e3, e4, e5]]) h trivial (by show (4 : Nat) ≤ 1000; omega) rfl rfl (fun j q qs h1 h2 => by
    match j, h1, h2 with
    | 0, h1, h2 => cases h1; cases h2; exact ⟨rfl, hp⟩
    | 1, h1, h2 => cases h1; cases h2; exact ⟨rfl, hq⟩
    | 2, h1, h2 => cases h1; cases h2; exact ⟨rfl, hr⟩
    | 3, h1, h2 => cases h1; cases h2; exact ⟨rfl, hs⟩)
end
/-- A part with a command. -/
theorem body_at {d : Nat} {w : World} {N : Nat} {k0 : Int} {nm : B} {no : Bool} {r3 r4 r5 r6 r7 r8 : Value} (h : w.heap[N]? = some (.cells #[.int .i64 k0, .string nm, .bool no, r3, r4, r5, r6, r7, r8] 60 (0, 0))) (k : Int) (t op : B) (q : Bool) :
    PartAt (d + 1) (fun _ => True) w (.mk k t op q [] (some (nm, no))) [.int .i64 k, .string t, .string op, .bool q, .slice none 0 0, .pointer (some ⟨N, 0, none⟩)] :=
  ⟨none, 0, 0, some ⟨N, 0, none⟩, rfl, Nat.le_refl _, ⟨rfl, by decide, fun h => absurd h (Nat.lt_irrefl _)⟩, ⟨⟨N, 0, none⟩, rfl, (blk_cell h 1).trans rfl, (blk_cell h 2).trans rfl, trivial⟩⟩
theorem allocs8 {w W : World} {o0 o1 o2 o3 o4 o5 o6 o7 : Obj} (h : (((((((w.alloc o0).alloc o1).alloc o2).alloc o3).alloc o4).alloc o5).alloc o6).alloc o7 = W) :
    W.heap[w.heap.size]? = some o0 ∧ W.heap[w.heap.size + 1]? = some o1 ∧ W.heap[w.heap.size + 1 + 1]? = some o2 ∧ W.heap[w.heap.size + 1 + 1 + 1]? = some o3 ∧ W.heap[w.heap.size + 1 + 1 + 1 + 1]? = some o4 ∧ W.heap[w.heap.size + 1 + 1 + 1 + 1 + 1]? = some o5 ∧ W.heap[w.heap.size + 1 + 1 + 1 + 1 + 1 + 1]? = some o6 ∧ W.heap[w.heap.size + 1 + 1 + 1 + 1 + 1 + 1 + 1]? = some o7 ∧ Below w.heap.size w W := by
  subst h
  have k1 := three_new w o0 o1 o2
  have k2 := three_new (((w.alloc o0).alloc o1).alloc o2) o3 o4 o5
  have k3 := two_new ((((((w.alloc o0).alloc o1).alloc o2).alloc o3).alloc o4).alloc o5) o6 o7
  have b2 := below_3 (((w.alloc o0).alloc o1).alloc o2) o3 o4 o5
  have b3 := below_aa ((((((w.alloc o0).alloc o1).alloc o2).alloc o3).alloc o4).alloc o5) o6 o7
  simp only [World.size_alloc] at k2 k3
  have b23 : ∀ {N : Nat} {o : Obj}, (((w.alloc o0).alloc o1).alloc o2).heap[N]? = some o → _ := fun h => below_obj b3 (below_obj b2 h)
  refine ⟨b23 k1.1, b23 k1.2.1, b23 k1.2.2, below_obj b3 k2.1, below_obj b3 k2.2.1, below_obj b3 k2.2.2, k3.1, k3.2, ?_⟩
  exact (below_3 w o0 o1 o2).trans ((b2.mono (by simp; omega)).trans (b3.mono (by simp; omega)))
/-- The table: each word comes to the text beside it. -/
def KTab (w : World) (ad : Addr) : Prop := ∀ k, k < 25 → ∃ A n c word want, w.cell? (ad.add (k * 2)) = some (.slice A n c) ∧ w.cell? (ad.add (k * 2 + 1)) = some (.string want) ∧ n ≤ c ∧ WordAt 3 (fun _ => True) w A n word ∧ saidP word ⟨lawL, lawA, 7, []⟩ = some want

theorem vars_none (w : World) : VarsAt w (.slice none 0 0) none 0 [] [] :=
  ⟨.inl ⟨rfl, rfl⟩, ⟨rfl, by decide, fun h => absurd h (Nat.lt_irrefl _)⟩, Nat.le_refl _, (fun _ e => by cases e), by decide⟩

set_option maxHeartbeats 12800000 in
set_option maxRecDepth 100000 in
theorem known_try (w : World) (hT : TabOk w) : Calls Tryd.prog 6 #[] w fun en w' => en = .returned (.bool true) ∧ Below w.heap.size w w' := by
  have HT := Lib.hid hT
  clear hT
  go_enter Tryd.func6, Tryd.ntmps6
  go_upto_region 2 with (go_at_call 16; refine (vars_w _).mono ?_; rintro en wv ⟨NL, A, c, rfl, hv, hb⟩; have HV := Lib.hid hv; have HBV := Lib.hid hb; clear hb hv)
  generalize hE : World.alloc _ _ = w0
  have HV0 : Hid (VarsAt w0 (.slice (some ⟨NL, 0, none⟩) 2 2) A c lawL lawA ∧ w0.heap[wv.heap.size]? = some (.cells #[.slice (some ⟨NL, 0, none⟩) 2 2, .slice A 2 c, .int .i64 7] 26 (0, 0)) ∧ Below w.heap.size w w0) := Lib.hid (by subst hE; exact ⟨HV.out.below (below_a _ _), heap_alloc_new _ _, HBV.out.alloc HBV.out.size _⟩)
  clear hE HV HBV
  go_cut [124, 125, 126] (fun s124 s125 s126 wx => ∃ ad : Addr, s124 = .slice (some ad) 25 25 ∧ s125 = .int .i64 25 ∧ s126 = .int .i64 0 ∧ Below w0.heap.size w0 wx ∧ KTab wx ad)
  case first =>
    have HK : Hid (Words w0 []) := Lib.hid (fun x hx => by cases hx)
    have HB : Hid (Below w0.heap.size w0 w0) := Lib.hid (Below.refl _ _)
  -- REGION 2 (printed by wip/gen-known.py)
    have F1 : Hid True := Lib.hid trivial
    go_wp2_with (go_at_call 13; clear F1; refine (par_w _ _ _ _ _ _ _).mono ?_; rintro en w1 ⟨rfl, hb⟩; have B1 : Below w0.heap.size w0 w1 := hb; have HK' := Lib.hid (HK.out.below B1); clear HK; have HK := HK'; clear HK'; have HB' := Lib.hid (HB.out.trans (B1.mono HB.out.size)); clear HB; have HB := HB'; clear HB'; clear hb B1)
    have F2 : Hid True := Lib.hid trivial
    go_wp2_with (go_at_call 12; clear F2; refine (quo_w _ _).mono ?_; rintro en w2 ⟨rfl, hb⟩; have B2 : Below w1.heap.size w1 w2 := (below_a w1 _).trans (hb.mono (by simp)); have O0 := below_obj hb (heap_alloc_new _ _); have X_r12 : Hid (WordAt 3 (fun _ => True) w2 (some ⟨w1.heap.size, 0, none⟩) 1 kw_r12) := Lib.hid (row1 O0 (leaf_at _ _ _ _ _ _ _)); clear O0; have HK' := Lib.hid (HK.out.below B2); clear HK; have HK := HK'; clear HK'; have HB' := Lib.hid (HB.out.trans (B2.mono HB.out.size)); clear HB; have HB := HB'; clear HB'; have HK' := Lib.hid (Words.cons HK.out X_r12.out); clear HK X_r12; have HK := HK'; clear HK'; clear hb B2)
    have F3 : Hid True := Lib.hid trivial
    go_wp2_with (go_at_call 13; clear F3; refine (par_w _ _ _ _ _ _ _).mono ?_; rintro en w3 ⟨rfl, hb⟩; have B3 : Below w2.heap.size w2 w3 := hb; have HK' := Lib.hid (HK.out.below B3); clear HK; have HK := HK'; clear HK'; have HB' := Lib.hid (HB.out.trans (B3.mono HB.out.size)); clear HB; have HB := HB'; clear HB'; clear hb B3)
    have F4 : Hid True := Lib.hid trivial
    go_wp2_with (go_at_call 13; clear F4; refine (par_w _ _ _ _ _ _ _).mono ?_; rintro en w4 ⟨rfl, hb⟩; have B4 : Below w3.heap.size w3 w4 := (below_a w3 _).trans (hb.mono (by simp)); have O0 := below_obj hb (heap_alloc_new _ _); have X_r16 : Hid (WordAt 3 (fun _ => True) w4 (some ⟨w3.heap.size, 0, none⟩) 2 kw_r16) := Lib.hid (row2 O0 (leaf_at _ _ _ _ _ _ _) (leaf_at _ _ _ _ _ _ _)); clear O0; have HK' := Lib.hid (HK.out.below B4); clear HK; have HK := HK'; clear HK'; have HB' := Lib.hid (HB.out.trans (B4.mono HB.out.size)); clear HB; have HB := HB'; clear HB'; have HK' := Lib.hid (Words.cons HK.out X_r16.out); clear HK X_r16; have HK := HK'; clear HK'; clear hb B4)
    have F5 : Hid True := Lib.hid trivial
    go_wp2_with (go_at_call 14; clear F5; refine (lit_w _ _).mono ?_; rintro en w5 ⟨rfl, hb⟩; have B5 : Below w4.heap.size w4 w5 := (below_a w4 _).trans (hb.mono (by simp)); have O0 := below_obj hb (heap_alloc_new _ _); have X_r19 : Hid (WordAt 3 (fun _ => True) w5 (some ⟨w4.heap.size, 0, none⟩) 1 kw_r19) := Lib.hid (row1 O0 (leaf_at _ _ _ _ _ _ _)); clear O0; have HK' := Lib.hid (HK.out.below B5); clear HK; have HK := HK'; clear HK'; have HB' := Lib.hid (HB.out.trans (B5.mono HB.out.size)); clear HB; have HB := HB'; clear HB'; have HK' := Lib.hid (Words.cons HK.out X_r19.out); clear HK X_r19; have HK := HK'; clear HK'; clear hb B5)
    have F6 : Hid True := Lib.hid trivial
    go_wp2_with (go_at_call 13; clear F6; refine (par_w _ _ _ _ _ _ _).mono ?_; rintro en w6 ⟨rfl, hb⟩; have B6 : Below w5.heap.size w5 w6 := (below_a w5 _).trans (hb.mono (by simp)); have O0 := below_obj hb (heap_alloc_new _ _); have X_r22 : Hid (WordAt 2 (fun _ => True) w6 (some ⟨w5.heap.size, 0, none⟩) 1 kw_r22) := Lib.hid (row1 O0 (leaf_at _ _ _ _ _ _ _)); clear O0; have HK' := Lib.hid (HK.out.below B6); clear HK; have HK := HK'; clear HK'; have HB' := Lib.hid (HB.out.trans (B6.mono HB.out.size)); clear HB; have HB := HB'; clear HB'; clear hb B6)
    have F7 : Hid True := Lib.hid trivial
    go_wp2_with (go_at_call 14; clear F7; refine (lit_w _ _).mono ?_; rintro en w7 ⟨rfl, hb⟩; have B7 : Below w6.heap.size w6 w7 := (below_a w6 _).trans (hb.mono (by simp)); have X_r22' := Lib.hid (X_r22.out.below B7); clear X_r22; have X_r22 := X_r22'; clear X_r22'; have O0 := below_obj hb (heap_alloc_new _ _); have X_r24 : Hid (WordAt 3 (fun _ => True) w7 (some ⟨w6.heap.size, 0, none⟩) 1 kw_r24) := Lib.hid (row1 O0 (part_at X_r22.out (Nat.le_refl _) _ _ _ _)); clear X_r22; clear O0; have HK' := Lib.hid (HK.out.below B7); clear HK; have HK := HK'; clear HK'; have HB' := Lib.hid (HB.out.trans (B7.mono HB.out.size)); clear HB; have HB := HB'; clear HB'; have HK' := Lib.hid (Words.cons HK.out X_r24.out); clear HK X_r24; have HK := HK'; clear HK'; clear hb B7)
    have F8 : Hid True := Lib.hid trivial
    go_wp2_with (go_at_call 13; clear F8; refine (par_w _ _ _ _ _ _ _).mono ?_; rintro en w8 ⟨rfl, hb⟩; have B8 : Below w7.heap.size w7 w8 := (below_a w7 _).trans (hb.mono (by simp)); have O0 := below_obj hb (heap_alloc_new _ _); have X_r27 : Hid (WordAt 2 (fun _ => True) w8 (some ⟨w7.heap.size, 0, none⟩) 1 kw_r27) := Lib.hid (row1 O0 (leaf_at _ _ _ _ _ _ _)); clear O0; have HK' := Lib.hid (HK.out.below B8); clear HK; have HK := HK'; clear HK'; have HB' := Lib.hid (HB.out.trans (B8.mono HB.out.size)); clear HB; have HB := HB'; clear HB'; clear hb B8)
    have F9 : Hid True := Lib.hid trivial
    go_wp2_with (go_at_call 12; clear F9; refine (quo_w _ _).mono ?_; rintro en w9 ⟨rfl, hb⟩; have B9 : Below w8.heap.size w8 w9 := (below_a w8 _).trans (hb.mono (by simp)); have X_r27' := Lib.hid (X_r27.out.below B9); clear X_r27; have X_r27 := X_r27'; clear X_r27'; have O0 := below_obj hb (heap_alloc_new _ _); have X_r29 : Hid (WordAt 3 (fun _ => True) w9 (some ⟨w8.heap.size, 0, none⟩) 1 kw_r29) := Lib.hid (row1 O0 (part_at X_r27.out (Nat.le_refl _) _ _ _ _)); clear X_r27; clear O0; have HK' := Lib.hid (HK.out.below B9); clear HK; have HK := HK'; clear HK'; have HB' := Lib.hid (HB.out.trans (B9.mono HB.out.size)); clear HB; have HB := HB'; clear HB'; have HK' := Lib.hid (Words.cons HK.out X_r29.out); clear HK X_r29; have HK := HK'; clear HK'; clear hb B9)
    have F10 : Hid True := Lib.hid trivial
    go_wp2_with (go_at_call 13; clear F10; refine (par_w _ _ _ _ _ _ _).mono ?_; rintro en w10 ⟨rfl, hb⟩; have B10 : Below w9.heap.size w9 w10 := (below_a w9 _).trans (hb.mono (by simp)); have O0 := below_obj hb (heap_alloc_new _ _); have X_r32 : Hid (WordAt 2 (fun _ => True) w10 (some ⟨w9.heap.size, 0, none⟩) 1 kw_r32) := Lib.hid (row1 O0 (leaf_at _ _ _ _ _ _ _)); clear O0; have HK' := Lib.hid (HK.out.below B10); clear HK; have HK := HK'; clear HK'; have HB' := Lib.hid (HB.out.trans (B10.mono HB.out.size)); clear HB; have HB := HB'; clear HB'; clear hb B10)
    have F11 : Hid True := Lib.hid trivial
    go_wp2_with (go_at_call 12; clear F11; refine (quo_w _ _).mono ?_; rintro en w11 ⟨rfl, hb⟩; have B11 : Below w10.heap.size w10 w11 := (below_a w10 _).trans (hb.mono (by simp)); have X_r32' := Lib.hid (X_r32.out.below B11); clear X_r32; have X_r32 := X_r32'; clear X_r32'; have O0 := below_obj hb (heap_alloc_new _ _); have X_r34 : Hid (WordAt 3 (fun _ => True) w11 (some ⟨w10.heap.size, 0, none⟩) 1 kw_r34) := Lib.hid (row1 O0 (part_at X_r32.out (Nat.le_refl _) _ _ _ _)); clear X_r32; clear O0; have HK' := Lib.hid (HK.out.below B11); clear HK; have HK := HK'; clear HK'; have HB' := Lib.hid (HB.out.trans (B11.mono HB.out.size)); clear HB; have HB := HB'; clear HB'; have HK' := Lib.hid (Words.cons HK.out X_r34.out); clear HK X_r34; have HK := HK'; clear HK'; clear hb B11)
    have F12 : Hid True := Lib.hid trivial
    go_wp2_with (go_at_call 13; clear F12; refine (par_w _ _ _ _ _ _ _).mono ?_; rintro en w12 ⟨rfl, hb⟩; have B12 : Below w11.heap.size w11 w12 := (below_a w11 _).trans (hb.mono (by simp)); have O0 := below_obj hb (heap_alloc_new _ _); have X_r37 : Hid (WordAt 2 (fun _ => True) w12 (some ⟨w11.heap.size, 0, none⟩) 1 kw_r37) := Lib.hid (row1 O0 (leaf_at _ _ _ _ _ _ _)); clear O0; have HK' := Lib.hid (HK.out.below B12); clear HK; have HK := HK'; clear HK'; have HB' := Lib.hid (HB.out.trans (B12.mono HB.out.size)); clear HB; have HB := HB'; clear HB'; clear hb B12)
    have F13 : Hid True := Lib.hid trivial
    go_wp2_with (go_at_call 14; clear F13; refine (lit_w _ _).mono ?_; rintro en w13 ⟨rfl, hb⟩; have B13 : Below w12.heap.size w12 w13 := (below_a w12 _).trans (hb.mono (by simp)); have X_r37' := Lib.hid (X_r37.out.below B13); clear X_r37; have X_r37 := X_r37'; clear X_r37'; have O0 := below_obj hb (heap_alloc_new _ _); have X_r39 : Hid (WordAt 3 (fun _ => True) w13 (some ⟨w12.heap.size, 0, none⟩) 1 kw_r39) := Lib.hid (row1 O0 (part_at X_r37.out (Nat.le_refl _) _ _ _ _)); clear X_r37; clear O0; have HK' := Lib.hid (HK.out.below B13); clear HK; have HK := HK'; clear HK'; have HB' := Lib.hid (HB.out.trans (B13.mono HB.out.size)); clear HB; have HB := HB'; clear HB'; have HK' := Lib.hid (Words.cons HK.out X_r39.out); clear HK X_r39; have HK := HK'; clear HK'; clear hb B13)
    have F14 : Hid True := Lib.hid trivial
    go_wp2_with (go_at_call 13; clear F14; refine (par_w _ _ _ _ _ _ _).mono ?_; rintro en w14 ⟨rfl, hb⟩; have B14 : Below w13.heap.size w13 w14 := (below_a w13 _).trans (hb.mono (by simp)); have O0 := below_obj hb (heap_alloc_new _ _); have X_r42 : Hid (WordAt 2 (fun _ => True) w14 (some ⟨w13.heap.size, 0, none⟩) 1 kw_r42) := Lib.hid (row1 O0 (leaf_at _ _ _ _ _ _ _)); clear O0; have HK' := Lib.hid (HK.out.below B14); clear HK; have HK := HK'; clear HK'; have HB' := Lib.hid (HB.out.trans (B14.mono HB.out.size)); clear HB; have HB := HB'; clear HB'; clear hb B14)
    have F15 : Hid True := Lib.hid trivial
    go_wp2_with (go_at_call 14; clear F15; refine (lit_w _ _).mono ?_; rintro en w15 ⟨rfl, hb⟩; have B15 : Below w14.heap.size w14 w15 := (below_a w14 _).trans (hb.mono (by simp)); have X_r42' := Lib.hid (X_r42.out.below B15); clear X_r42; have X_r42 := X_r42'; clear X_r42'; have O0 := below_obj hb (heap_alloc_new _ _); have X_r44 : Hid (WordAt 3 (fun _ => True) w15 (some ⟨w14.heap.size, 0, none⟩) 1 kw_r44) := Lib.hid (row1 O0 (part_at X_r42.out (Nat.le_refl _) _ _ _ _)); clear X_r42; clear O0; have HK' := Lib.hid (HK.out.below B15); clear HK; have HK := HK'; clear HK'; have HB' := Lib.hid (HB.out.trans (B15.mono HB.out.size)); clear HB; have HB := HB'; clear HB'; have HK' := Lib.hid (Words.cons HK.out X_r44.out); clear HK X_r44; have HK := HK'; clear HK'; clear hb B15)
    have F16 : Hid True := Lib.hid trivial
    go_wp2_with (go_at_call 13; clear F16; refine (par_w _ _ _ _ _ _ _).mono ?_; rintro en w16 ⟨rfl, hb⟩; have B16 : Below w15.heap.size w15 w16 := (below_a w15 _).trans (hb.mono (by simp)); have O0 := below_obj hb (heap_alloc_new _ _); have X_r47 : Hid (WordAt 2 (fun _ => True) w16 (some ⟨w15.heap.size, 0, none⟩) 1 kw_r47) := Lib.hid (row1 O0 (leaf_at _ _ _ _ _ _ _)); clear O0; have HK' := Lib.hid (HK.out.below B16); clear HK; have HK := HK'; clear HK'; have HB' := Lib.hid (HB.out.trans (B16.mono HB.out.size)); clear HB; have HB := HB'; clear HB'; clear hb B16)
    have F17 : Hid True := Lib.hid trivial
    go_wp2_with (go_at_call 14; clear F17; refine (lit_w _ _).mono ?_; rintro en w17 ⟨rfl, hb⟩; have B17 : Below w16.heap.size w16 w17 := (below_a w16 _).trans (hb.mono (by simp)); have X_r47' := Lib.hid (X_r47.out.below B17); clear X_r47; have X_r47 := X_r47'; clear X_r47'; have O0 := below_obj hb (heap_alloc_new _ _); have X_r49 : Hid (WordAt 3 (fun _ => True) w17 (some ⟨w16.heap.size, 0, none⟩) 1 kw_r49) := Lib.hid (row1 O0 (part_at X_r47.out (Nat.le_refl _) _ _ _ _)); clear X_r47; clear O0; have HK' := Lib.hid (HK.out.below B17); clear HK; have HK := HK'; clear HK'; have HB' := Lib.hid (HB.out.trans (B17.mono HB.out.size)); clear HB; have HB := HB'; clear HB'; have HK' := Lib.hid (Words.cons HK.out X_r49.out); clear HK X_r49; have HK := HK'; clear HK'; clear hb B17)
    have F18 : Hid True := Lib.hid trivial
    go_wp2_with (go_at_call 13; clear F18; refine (par_w _ _ _ _ _ _ _).mono ?_; rintro en w18 ⟨rfl, hb⟩; have B18 : Below w17.heap.size w17 w18 := (below_a w17 _).trans (hb.mono (by simp)); have O0 := below_obj hb (heap_alloc_new _ _); have X_r53 : Hid (WordAt 2 (fun _ => True) w18 (some ⟨w17.heap.size, 0, none⟩) 2 kw_r53) := Lib.hid (row2 O0 (leaf_at _ _ _ _ _ _ _) (leaf_at _ _ _ _ _ _ _)); clear O0; have HK' := Lib.hid (HK.out.below B18); clear HK; have HK := HK'; clear HK'; have HB' := Lib.hid (HB.out.trans (B18.mono HB.out.size)); clear HB; have HB := HB'; clear HB'; clear hb B18)
    have F19 : Hid True := Lib.hid trivial
    go_wp2_with (go_at_call 13; clear F19; refine (par_w _ _ _ _ _ _ _).mono ?_; rintro en w19 ⟨rfl, hb⟩; have B19 : Below w18.heap.size w18 w19 := (below_a w18 _).trans (hb.mono (by simp)); have X_r53' := Lib.hid (X_r53.out.below B19); clear X_r53; have X_r53 := X_r53'; clear X_r53'; have O0 := below_obj hb (heap_alloc_new _ _); have X_r55 : Hid (WordAt 3 (fun _ => True) w19 (some ⟨w18.heap.size, 0, none⟩) 1 kw_r55) := Lib.hid (row1 O0 (part_at X_r53.out (Nat.le_refl _) _ _ _ _)); clear X_r53; clear O0; have HK' := Lib.hid (HK.out.below B19); clear HK; have HK := HK'; clear HK'; have HB' := Lib.hid (HB.out.trans (B19.mono HB.out.size)); clear HB; have HB := HB'; clear HB'; have HK' := Lib.hid (Words.cons HK.out X_r55.out); clear HK X_r55; have HK := HK'; clear HK'; clear hb B19)
    have F20 : Hid True := Lib.hid trivial
    go_wp2_with (go_at_call 13; clear F20; refine (par_w _ _ _ _ _ _ _).mono ?_; rintro en w20 ⟨rfl, hb⟩; have B20 : Below w19.heap.size w19 w20 := (below_a w19 _).trans (hb.mono (by simp)); have O0 := below_obj hb (heap_alloc_new _ _); have X_r58 : Hid (WordAt 3 (fun _ => True) w20 (some ⟨w19.heap.size, 0, none⟩) 1 kw_r58) := Lib.hid (row1 O0 (leaf_at _ _ _ _ _ _ _)); clear O0; have HK' := Lib.hid (HK.out.below B20); clear HK; have HK := HK'; clear HK'; have HB' := Lib.hid (HB.out.trans (B20.mono HB.out.size)); clear HB; have HB := HB'; clear HB'; have HK' := Lib.hid (Words.cons HK.out X_r58.out); clear HK X_r58; have HK := HK'; clear HK'; clear hb B20)
    have F21 : Hid True := Lib.hid trivial
    go_wp2_with (go_at_call 13; clear F21; refine (par_w _ _ _ _ _ _ _).mono ?_; rintro en w21 ⟨rfl, hb⟩; have B21 : Below w20.heap.size w20 w21 := hb; have HK' := Lib.hid (HK.out.below B21); clear HK; have HK := HK'; clear HK'; have HB' := Lib.hid (HB.out.trans (B21.mono HB.out.size)); clear HB; have HB := HB'; clear HB'; clear hb B21)
    have F22 : Hid True := Lib.hid trivial
    go_wp2_with (go_at_call 13; clear F22; refine (par_w _ _ _ _ _ _ _).mono ?_; rintro en w22 ⟨rfl, hb⟩; have B22 : Below w21.heap.size w21 w22 := hb; have HK' := Lib.hid (HK.out.below B22); clear HK; have HK := HK'; clear HK'; have HB' := Lib.hid (HB.out.trans (B22.mono HB.out.size)); clear HB; have HB := HB'; clear HB'; clear hb B22)
    have F23 : Hid True := Lib.hid trivial
    go_wp2_with (go_at_call 13; clear F23; refine (par_w _ _ _ _ _ _ _).mono ?_; rintro en w23 ⟨rfl, hb⟩; have B23 : Below w22.heap.size w22 w23 := (below_a w22 _).trans (hb.mono (by simp)); have O0 := below_obj hb (heap_alloc_new _ _); have X_r63 : Hid (WordAt 3 (fun _ => True) w23 (some ⟨w22.heap.size, 0, none⟩) 3 kw_r63) := Lib.hid (row3 O0 (leaf_at _ _ _ _ _ _ _) (leaf_at _ _ _ _ _ _ _) (leaf_at _ _ _ _ _ _ _)); clear O0; have HK' := Lib.hid (HK.out.below B23); clear HK; have HK := HK'; clear HK'; have HB' := Lib.hid (HB.out.trans (B23.mono HB.out.size)); clear HB; have HB := HB'; clear HB'; have HK' := Lib.hid (Words.cons HK.out X_r63.out); clear HK X_r63; have HK := HK'; clear HK'; clear hb B23)
    have F24 : Hid True := Lib.hid trivial
    go_wp2_with (go_at_call 13; clear F24; refine (par_w _ _ _ _ _ _ _).mono ?_; rintro en w24 ⟨rfl, hb⟩; have B24 : Below w23.heap.size w23 w24 := hb; have HK' := Lib.hid (HK.out.below B24); clear HK; have HK := HK'; clear HK'; have HB' := Lib.hid (HB.out.trans (B24.mono HB.out.size)); clear HB; have HB := HB'; clear HB'; clear hb B24)
    have F25 : Hid True := Lib.hid trivial
    go_wp2_with (go_at_call 13; clear F25; refine (par_w _ _ _ _ _ _ _).mono ?_; rintro en w25 ⟨rfl, hb⟩; have B25 : Below w24.heap.size w24 w25 := hb; have HK' := Lib.hid (HK.out.below B25); clear HK; have HK := HK'; clear HK'; have HB' := Lib.hid (HB.out.trans (B25.mono HB.out.size)); clear HB; have HB := HB'; clear HB'; clear hb B25)
    have F26 : Hid True := Lib.hid trivial
    go_wp2_with (go_at_call 14; clear F26; refine (lit_w _ _).mono ?_; rintro en w26 ⟨rfl, hb⟩; have B26 : Below w25.heap.size w25 w26 := hb; have HK' := Lib.hid (HK.out.below B26); clear HK; have HK := HK'; clear HK'; have HB' := Lib.hid (HB.out.trans (B26.mono HB.out.size)); clear HB; have HB := HB'; clear HB'; clear hb B26)
    have F27 : Hid True := Lib.hid trivial
    go_wp2_with (go_at_call 13; clear F27; refine (par_w _ _ _ _ _ _ _).mono ?_; rintro en w27 ⟨rfl, hb⟩; have B27 : Below w26.heap.size w26 w27 := (below_a w26 _).trans (hb.mono (by simp)); have O0 := below_obj hb (heap_alloc_new _ _); have X_r69 : Hid (WordAt 2 (fun _ => True) w27 (some ⟨w26.heap.size, 0, none⟩) 1 kw_r69) := Lib.hid (row1 O0 (leaf_at _ _ _ _ _ _ _)); clear O0; have HK' := Lib.hid (HK.out.below B27); clear HK; have HK := HK'; clear HK'; have HB' := Lib.hid (HB.out.trans (B27.mono HB.out.size)); clear HB; have HB := HB'; clear HB'; clear hb B27)
    have F28 : Hid True := Lib.hid trivial
    go_wp2_with (go_at_call 13; clear F28; refine (par_w _ _ _ _ _ _ _).mono ?_; rintro en w28 ⟨rfl, hb⟩; have B28 : Below w27.heap.size w27 w28 := (below_a w27 _).trans (hb.mono (by simp)); have X_r69' := Lib.hid (X_r69.out.below B28); clear X_r69; have X_r69 := X_r69'; clear X_r69'; have O0 := below_obj hb (heap_alloc_new _ _); have X_r71 : Hid (WordAt 3 (fun _ => True) w28 (some ⟨w27.heap.size, 0, none⟩) 4 kw_r71) := Lib.hid (row4 O0 (leaf_at _ _ _ _ _ _ _) (leaf_at _ _ _ _ _ _ _) (leaf_at _ _ _ _ _ _ _) (part_at X_r69.out (Nat.le_refl _) _ _ _ _)); clear X_r69; clear O0; have HK' := Lib.hid (HK.out.below B28); clear HK; have HK := HK'; clear HK'; have HB' := Lib.hid (HB.out.trans (B28.mono HB.out.size)); clear HB; have HB := HB'; clear HB'; have HK' := Lib.hid (Words.cons HK.out X_r71.out); clear HK X_r71; have HK := HK'; clear HK'; clear hb B28)
    have F29 : Hid True := Lib.hid trivial
    go_wp2_with (go_at_call 13; clear F29; refine (par_w _ _ _ _ _ _ _).mono ?_; rintro en w29 ⟨rfl, hb⟩; have B29 : Below w28.heap.size w28 w29 := (below_a w28 _).trans (hb.mono (by simp)); have O0 := below_obj hb (heap_alloc_new _ _); have X_r74 : Hid (WordAt 2 (fun _ => True) w29 (some ⟨w28.heap.size, 0, none⟩) 1 kw_r74) := Lib.hid (row1 O0 (leaf_at _ _ _ _ _ _ _)); clear O0; have HK' := Lib.hid (HK.out.below B29); clear HK; have HK := HK'; clear HK'; have HB' := Lib.hid (HB.out.trans (B29.mono HB.out.size)); clear HB; have HB := HB'; clear HB'; clear hb B29)
    have F30 : Hid True := Lib.hid trivial
    go_wp2_with (go_at_call 13; clear F30; refine (par_w _ _ _ _ _ _ _).mono ?_; rintro en w30 ⟨rfl, hb⟩; have B30 : Below w29.heap.size w29 w30 := hb; have X_r74' := Lib.hid (X_r74.out.below B30); clear X_r74; have X_r74 := X_r74'; clear X_r74'; have HK' := Lib.hid (HK.out.below B30); clear HK; have HK := HK'; clear HK'; have HB' := Lib.hid (HB.out.trans (B30.mono HB.out.size)); clear HB; have HB := HB'; clear HB'; clear hb B30)
    have F31 : Hid True := Lib.hid trivial
    go_wp2_with (go_at_call 13; clear F31; refine (par_w _ _ _ _ _ _ _).mono ?_; rintro en w31 ⟨rfl, hb⟩; have B31 : Below w30.heap.size w30 w31 := (below_a w30 _).trans (hb.mono (by simp)); have X_r74' := Lib.hid (X_r74.out.below B31); clear X_r74; have X_r74 := X_r74'; clear X_r74'; have O0 := below_obj hb (heap_alloc_new _ _); have X_r77 : Hid (WordAt 3 (fun _ => True) w31 (some ⟨w30.heap.size, 0, none⟩) 2 kw_r77) := Lib.hid (row2 O0 (part_at X_r74.out (Nat.le_refl _) _ _ _ _) (leaf_at _ _ _ _ _ _ _)); clear X_r74; clear O0; have HK' := Lib.hid (HK.out.below B31); clear HK; have HK := HK'; clear HK'; have HB' := Lib.hid (HB.out.trans (B31.mono HB.out.size)); clear HB; have HB := HB'; clear HB'; have HK' := Lib.hid (Words.cons HK.out X_r77.out); clear HK X_r77; have HK := HK'; clear HK'; clear hb B31)
    have F32 : Hid True := Lib.hid trivial
    go_wp2_with (go_at_call 12; clear F32; refine (quo_w _ _).mono ?_; rintro en w32 ⟨rfl, hb⟩; have B32 : Below w31.heap.size w31 w32 := hb; have HK' := Lib.hid (HK.out.below B32); clear HK; have HK := HK'; clear HK'; have HB' := Lib.hid (HB.out.trans (B32.mono HB.out.size)); clear HB; have HB := HB'; clear HB'; clear hb B32)
    have F33 : Hid True := Lib.hid trivial
    go_wp2_with (go_at_call 13; clear F33; refine (par_w _ _ _ _ _ _ _).mono ?_; rintro en w33 ⟨rfl, hb⟩; have B33 : Below w32.heap.size w32 w33 := (below_a w32 _).trans (hb.mono (by simp)); have O0 := below_obj hb (heap_alloc_new _ _); have X_r81 : Hid (WordAt 2 (fun _ => True) w33 (some ⟨w32.heap.size, 0, none⟩) 2 kw_r81) := Lib.hid (row2 O0 (leaf_at _ _ _ _ _ _ _) (leaf_at _ _ _ _ _ _ _)); clear O0; have HK' := Lib.hid (HK.out.below B33); clear HK; have HK := HK'; clear HK'; have HB' := Lib.hid (HB.out.trans (B33.mono HB.out.size)); clear HB; have HB := HB'; clear HB'; clear hb B33)
    have F34 : Hid True := Lib.hid trivial
    go_wp2_with (go_at_call 13; clear F34; refine (par_w _ _ _ _ _ _ _).mono ?_; rintro en w34 ⟨rfl, hb⟩; have B34 : Below w33.heap.size w33 w34 := (below_a w33 _).trans (hb.mono (by simp)); have X_r81' := Lib.hid (X_r81.out.below B34); clear X_r81; have X_r81 := X_r81'; clear X_r81'; have O0 := below_obj hb (heap_alloc_new _ _); have X_r83 : Hid (WordAt 3 (fun _ => True) w34 (some ⟨w33.heap.size, 0, none⟩) 1 kw_r83) := Lib.hid (row1 O0 (part_at X_r81.out (Nat.le_refl _) _ _ _ _)); clear X_r81; clear O0; have HK' := Lib.hid (HK.out.below B34); clear HK; have HK := HK'; clear HK'; have HB' := Lib.hid (HB.out.trans (B34.mono HB.out.size)); clear HB; have HB := HB'; clear HB'; have HK' := Lib.hid (Words.cons HK.out X_r83.out); clear HK X_r83; have HK := HK'; clear HK'; clear hb B34)
    have F35 : Hid True := Lib.hid trivial
    go_wp2_with (go_at_call 13; clear F35; refine (par_w _ _ _ _ _ _ _).mono ?_; rintro en w35 ⟨rfl, hb⟩; have B35 : Below w34.heap.size w34 w35 := (below_a w34 _).trans (hb.mono (by simp)); have O0 := below_obj hb (heap_alloc_new _ _); have X_r86 : Hid (WordAt 3 (fun _ => True) w35 (some ⟨w34.heap.size, 0, none⟩) 1 kw_r86) := Lib.hid (row1 O0 (leaf_at _ _ _ _ _ _ _)); clear O0; have HK' := Lib.hid (HK.out.below B35); clear HK; have HK := HK'; clear HK'; have HB' := Lib.hid (HB.out.trans (B35.mono HB.out.size)); clear HB; have HB := HB'; clear HB'; have HK' := Lib.hid (Words.cons HK.out X_r86.out); clear HK X_r86; have HK := HK'; clear HK'; clear hb B35)
    have F36 : Hid True := Lib.hid trivial
    go_wp2_with (go_at_call 13; clear F36; refine (par_w _ _ _ _ _ _ _).mono ?_; rintro en w36 ⟨rfl, hb⟩; have B36 : Below w35.heap.size w35 w36 := (below_a w35 _).trans (hb.mono (by simp)); have O0 := below_obj hb (heap_alloc_new _ _); have X_r89 : Hid (WordAt 3 (fun _ => True) w36 (some ⟨w35.heap.size, 0, none⟩) 1 kw_r89) := Lib.hid (row1 O0 (leaf_at _ _ _ _ _ _ _)); clear O0; have HK' := Lib.hid (HK.out.below B36); clear HK; have HK := HK'; clear HK'; have HB' := Lib.hid (HB.out.trans (B36.mono HB.out.size)); clear HB; have HB := HB'; clear HB'; have HK' := Lib.hid (Words.cons HK.out X_r89.out); clear HK X_r89; have HK := HK'; clear HK'; clear hb B36)
    have F37 : Hid True := Lib.hid trivial
    go_wp2_with (go_at_call 14; clear F37; refine (lit_w _ _).mono ?_; rintro en w37 ⟨rfl, hb⟩; have B37 : Below w36.heap.size w36 w37 := (below_a w36 _).trans (hb.mono (by simp)); have O0 := below_obj hb (heap_alloc_new _ _); have X_r92 : Hid (WordAt 3 (fun _ => True) w37 (some ⟨w36.heap.size, 0, none⟩) 1 kw_r92) := Lib.hid (row1 O0 (leaf_at _ _ _ _ _ _ _)); clear O0; have HK' := Lib.hid (HK.out.below B37); clear HK; have HK := HK'; clear HK'; have HB' := Lib.hid (HB.out.trans (B37.mono HB.out.size)); clear HB; have HB := HB'; clear HB'; have HK' := Lib.hid (Words.cons HK.out X_r92.out); clear HK X_r92; have HK := HK'; clear HK'; clear hb B37)
    have F38 : Hid True := Lib.hid trivial
    go_wp2_with (go_at_call 13; clear F38; refine (par_w _ _ _ _ _ _ _).mono ?_; rintro en w38 ⟨rfl, hb⟩; have B38 : Below w37.heap.size w37 w38 := (below_a w37 _).trans (hb.mono (by simp)); have O0 := below_obj hb (heap_alloc_new _ _); have X_r95 : Hid (WordAt 2 (fun _ => True) w38 (some ⟨w37.heap.size, 0, none⟩) 1 kw_r95) := Lib.hid (row1 O0 (leaf_at _ _ _ _ _ _ _)); clear O0; have HK' := Lib.hid (HK.out.below B38); clear HK; have HK := HK'; clear HK'; have HB' := Lib.hid (HB.out.trans (B38.mono HB.out.size)); clear HB; have HB := HB'; clear HB'; clear hb B38)
    have F39 : Hid True := Lib.hid trivial
    go_wp2_with (go_at_call 14; clear F39; refine (lit_w _ _).mono ?_; rintro en w39 ⟨rfl, hb⟩; have B39 : Below w38.heap.size w38 w39 := (below_a w38 _).trans (hb.mono (by simp)); have X_r95' := Lib.hid (X_r95.out.below B39); clear X_r95; have X_r95 := X_r95'; clear X_r95'; have O0 := below_obj hb (heap_alloc_new _ _); have X_r97 : Hid (WordAt 3 (fun _ => True) w39 (some ⟨w38.heap.size, 0, none⟩) 1 kw_r97) := Lib.hid (row1 O0 (part_at X_r95.out (Nat.le_refl _) _ _ _ _)); clear X_r95; clear O0; have HK' := Lib.hid (HK.out.below B39); clear HK; have HK := HK'; clear HK'; have HB' := Lib.hid (HB.out.trans (B39.mono HB.out.size)); clear HB; have HB := HB'; clear HB'; have HK' := Lib.hid (Words.cons HK.out X_r97.out); clear HK X_r97; have HK := HK'; clear HK'; clear hb B39)
    have F40 : Hid True := Lib.hid trivial
    go_wp2_with (go_at_call 13; clear F40; refine (par_w _ _ _ _ _ _ _).mono ?_; rintro en w40 ⟨rfl, hb⟩; have B40 : Below w39.heap.size w39 w40 := (below_a w39 _).trans (hb.mono (by simp)); have O0 := below_obj hb (heap_alloc_new _ _); have X_r100 : Hid (WordAt 2 (fun _ => True) w40 (some ⟨w39.heap.size, 0, none⟩) 1 kw_r100) := Lib.hid (row1 O0 (leaf_at _ _ _ _ _ _ _)); clear O0; have HK' := Lib.hid (HK.out.below B40); clear HK; have HK := HK'; clear HK'; have HB' := Lib.hid (HB.out.trans (B40.mono HB.out.size)); clear HB; have HB := HB'; clear HB'; clear hb B40)
    have F41 : Hid True := Lib.hid trivial
    go_wp2_with (go_at_call 13; clear F41; refine (par_w _ _ _ _ _ _ _).mono ?_; rintro en w41 ⟨rfl, hb⟩; have B41 : Below w40.heap.size w40 w41 := (below_a w40 _).trans (hb.mono (by simp)); have X_r100' := Lib.hid (X_r100.out.below B41); clear X_r100; have X_r100 := X_r100'; clear X_r100'; have O0 := below_obj hb (heap_alloc_new _ _); have X_r102 : Hid (WordAt 3 (fun _ => True) w41 (some ⟨w40.heap.size, 0, none⟩) 1 kw_r102) := Lib.hid (row1 O0 (part_at X_r100.out (Nat.le_refl _) _ _ _ _)); clear X_r100; clear O0; have HK' := Lib.hid (HK.out.below B41); clear HK; have HK := HK'; clear HK'; have HB' := Lib.hid (HB.out.trans (B41.mono HB.out.size)); clear HB; have HB := HB'; clear HB'; have HK' := Lib.hid (Words.cons HK.out X_r102.out); clear HK X_r102; have HK := HK'; clear HK'; clear hb B41)
    go_wp2
    generalize hE : World.alloc _ _ = W8
    obtain ⟨O0, O1, O2, O3, O4, O5, O6, O7, B8⟩ := allocs8 hE
    clear hE
    have X_r105 : WordAt 3 (fun _ => True) W8 (some ⟨w41.heap.size, 0, none⟩) 1 kw_r105 := row1 O0 (leaf_at _ _ _ _ _ _ _)
    have X_r108 : WordAt 3 (fun _ => True) W8 (some ⟨w41.heap.size + 1, 0, none⟩) 1 kw_r108 := row1 O1 (leaf_at _ _ _ _ _ _ _)
    have X_r117 : WordAt 3 (fun _ => True) W8 (some ⟨w41.heap.size + 1 + 1 + 1 + 1, 0, none⟩) 3 kw_r117 := row3 O4 (body_at O2 _ _ _ _) (body_at O3 _ _ _ _) (leaf_at _ _ _ _ _ _ _)
    have X_r122 : WordAt 3 (fun _ => True) W8 (some ⟨w41.heap.size + 1 + 1 + 1 + 1 + 1 + 1, 0, none⟩) 1 kw_r122 := row1 O6 (body_at O5 _ _ _ _)
    have HK8 := HK.out.below B8
    have HT8 : Hid (KTab W8 ⟨w41.heap.size + 1 + 1 + 1 + 1 + 1 + 1 + 1, 0, none⟩) := Lib.hid (by
      intro k hk
      match k, hk with
      | 0, _ => exact ⟨_, _, _, [], _, (blk_cell O7 0).trans rfl, (blk_cell O7 1).trans rfl, Nat.le_refl _, word_nil _ _ _, ks_0⟩
      | 1, _ => exact ⟨_, _, _, kw_r12, _, (blk_cell O7 2).trans rfl, (blk_cell O7 3).trans rfl, Nat.le_refl _, HK8 _ (.tail _ (.tail _ (.tail _ (.tail _ (.tail _ (.tail _ (.tail _ (.tail _ (.tail _ (.tail _ (.tail _ (.tail _ (.tail _ (.tail _ (.tail _ (.tail _ (.tail _ (.tail _ (.tail _ (.head _)))))))))))))))))))), ks_1⟩
      | 2, _ => exact ⟨_, _, _, kw_r16, _, (blk_cell O7 4).trans rfl, (blk_cell O7 5).trans rfl, Nat.le_refl _, HK8 _ (.tail _ (.tail _ (.tail _ (.tail _ (.tail _ (.tail _ (.tail _ (.tail _ (.tail _ (.tail _ (.tail _ (.tail _ (.tail _ (.tail _ (.tail _ (.tail _ (.tail _ (.tail _ (.head _))))))))))))))))))), ks_2⟩
      | 3, _ => exact ⟨_, _, _, kw_r19, _, (blk_cell O7 6).trans rfl, (blk_cell O7 7).trans rfl, Nat.le_refl _, HK8 _ (.tail _ (.tail _ (.tail _ (.tail _ (.tail _ (.tail _ (.tail _ (.tail _ (.tail _ (.tail _ (.tail _ (.tail _ (.tail _ (.tail _ (.tail _ (.tail _ (.tail _ (.head _)))))))))))))))))), ks_3⟩
      | 4, _ => exact ⟨_, _, _, kw_r24, _, (blk_cell O7 8).trans rfl, (blk_cell O7 9).trans rfl, Nat.le_refl _, HK8 _ (.tail _ (.tail _ (.tail _ (.tail _ (.tail _ (.tail _ (.tail _ (.tail _ (.tail _ (.tail _ (.tail _ (.tail _ (.tail _ (.tail _ (.tail _ (.tail _ (.head _))))))))))))))))), ks_4⟩
      | 5, _ => exact ⟨_, _, _, kw_r29, _, (blk_cell O7 10).trans rfl, (blk_cell O7 11).trans rfl, Nat.le_refl _, HK8 _ (.tail _ (.tail _ (.tail _ (.tail _ (.tail _ (.tail _ (.tail _ (.tail _ (.tail _ (.tail _ (.tail _ (.tail _ (.tail _ (.tail _ (.tail _ (.head _)))))))))))))))), ks_5⟩
      | 6, _ => exact ⟨_, _, _, kw_r34, _, (blk_cell O7 12).trans rfl, (blk_cell O7 13).trans rfl, Nat.le_refl _, HK8 _ (.tail _ (.tail _ (.tail _ (.tail _ (.tail _ (.tail _ (.tail _ (.tail _ (.tail _ (.tail _ (.tail _ (.tail _ (.tail _ (.tail _ (.head _))))))))))))))), ks_6⟩
      | 7, _ => exact ⟨_, _, _, kw_r39, _, (blk_cell O7 14).trans rfl, (blk_cell O7 15).trans rfl, Nat.le_refl _, HK8 _ (.tail _ (.tail _ (.tail _ (.tail _ (.tail _ (.tail _ (.tail _ (.tail _ (.tail _ (.tail _ (.tail _ (.tail _ (.tail _ (.head _)))))))))))))), ks_7⟩
      | 8, _ => exact ⟨_, _, _, kw_r44, _, (blk_cell O7 16).trans rfl, (blk_cell O7 17).trans rfl, Nat.le_refl _, HK8 _ (.tail _ (.tail _ (.tail _ (.tail _ (.tail _ (.tail _ (.tail _ (.tail _ (.tail _ (.tail _ (.tail _ (.tail _ (.head _))))))))))))), ks_8⟩
      | 9, _ => exact ⟨_, _, _, kw_r49, _, (blk_cell O7 18).trans rfl, (blk_cell O7 19).trans rfl, Nat.le_refl _, HK8 _ (.tail _ (.tail _ (.tail _ (.tail _ (.tail _ (.tail _ (.tail _ (.tail _ (.tail _ (.tail _ (.tail _ (.head _)))))))))))), ks_9⟩
      | 10, _ => exact ⟨_, _, _, kw_r55, _, (blk_cell O7 20).trans rfl, (blk_cell O7 21).trans rfl, Nat.le_refl _, HK8 _ (.tail _ (.tail _ (.tail _ (.tail _ (.tail _ (.tail _ (.tail _ (.tail _ (.tail _ (.tail _ (.head _))))))))))), ks_10⟩
      | 11, _ => exact ⟨_, _, _, kw_r58, _, (blk_cell O7 22).trans rfl, (blk_cell O7 23).trans rfl, Nat.le_refl _, HK8 _ (.tail _ (.tail _ (.tail _ (.tail _ (.tail _ (.tail _ (.tail _ (.tail _ (.tail _ (.head _)))))))))), ks_11⟩
      | 12, _ => exact ⟨_, _, _, kw_r63, _, (blk_cell O7 24).trans rfl, (blk_cell O7 25).trans rfl, Nat.le_refl _, HK8 _ (.tail _ (.tail _ (.tail _ (.tail _ (.tail _ (.tail _ (.tail _ (.tail _ (.head _))))))))), ks_12⟩
      | 13, _ => exact ⟨_, _, _, kw_r71, _, (blk_cell O7 26).trans rfl, (blk_cell O7 27).trans rfl, Nat.le_refl _, HK8 _ (.tail _ (.tail _ (.tail _ (.tail _ (.tail _ (.tail _ (.tail _ (.head _)))))))), ks_13⟩
      | 14, _ => exact ⟨_, _, _, kw_r77, _, (blk_cell O7 28).trans rfl, (blk_cell O7 29).trans rfl, Nat.le_refl _, HK8 _ (.tail _ (.tail _ (.tail _ (.tail _ (.tail _ (.tail _ (.head _))))))), ks_14⟩
      | 15, _ => exact ⟨_, _, _, kw_r83, _, (blk_cell O7 30).trans rfl, (blk_cell O7 31).trans rfl, Nat.le_refl _, HK8 _ (.tail _ (.tail _ (.tail _ (.tail _ (.tail _ (.head _)))))), ks_15⟩
      | 16, _ => exact ⟨_, _, _, kw_r86, _, (blk_cell O7 32).trans rfl, (blk_cell O7 33).trans rfl, Nat.le_refl _, HK8 _ (.tail _ (.tail _ (.tail _ (.tail _ (.head _))))), ks_16⟩
      | 17, _ => exact ⟨_, _, _, kw_r89, _, (blk_cell O7 34).trans rfl, (blk_cell O7 35).trans rfl, Nat.le_refl _, HK8 _ (.tail _ (.tail _ (.tail _ (.head _)))), ks_17⟩
      | 18, _ => exact ⟨_, _, _, kw_r92, _, (blk_cell O7 36).trans rfl, (blk_cell O7 37).trans rfl, Nat.le_refl _, HK8 _ (.tail _ (.tail _ (.head _))), ks_18⟩
      | 19, _ => exact ⟨_, _, _, kw_r97, _, (blk_cell O7 38).trans rfl, (blk_cell O7 39).trans rfl, Nat.le_refl _, HK8 _ (.tail _ (.head _)), ks_19⟩
      | 20, _ => exact ⟨_, _, _, kw_r102, _, (blk_cell O7 40).trans rfl, (blk_cell O7 41).trans rfl, Nat.le_refl _, HK8 _ (.head _), ks_20⟩
      | 21, _ => exact ⟨_, _, _, kw_r105, _, (blk_cell O7 42).trans rfl, (blk_cell O7 43).trans rfl, Nat.le_refl _, X_r105, ks_21⟩
      | 22, _ => exact ⟨_, _, _, kw_r108, _, (blk_cell O7 44).trans rfl, (blk_cell O7 45).trans rfl, Nat.le_refl _, X_r108, ks_22⟩
      | 23, _ => exact ⟨_, _, _, kw_r117, _, (blk_cell O7 46).trans rfl, (blk_cell O7 47).trans rfl, Nat.le_refl _, X_r117, ks_23⟩
      | 24, _ => exact ⟨_, _, _, kw_r122, _, (blk_cell O7 48).trans rfl, (blk_cell O7 49).trans rfl, Nat.le_refl _, X_r122, ks_24⟩
      | k + 25, hk => exact absurd hk (by omega))
    have HB8 := HB.out.trans (B8.mono HB.out.size)
    go_meet
    case rel => exact ⟨_, rfl, rfl, rfl, HB8, HT8.out⟩
  -- END OF REGION 2
  case rest =>
    obtain ⟨ad, rfl, rfl, rfl, hb8, ht8⟩ := hcut
    have HT8 := Lib.hid ht8
    have HW8 : Hid (VarsAt wc (.slice (some ⟨NL, 0, none⟩) 2 2) A c lawL lawA ∧ wc.heap[wv.heap.size]? = some (.cells #[.slice (some ⟨NL, 0, none⟩) 2 2, .slice A 2 c, .int .i64 7] 26 (0, 0)) ∧ Below w.heap.size w wc) := Lib.hid ⟨HV0.out.1.below hb8, below_obj hb8 HV0.out.2.1, HV0.out.2.2.trans (hb8.mono HV0.out.2.2.size)⟩
    clear ht8 HV0 hb8
    go_wp2
    go_loopw [126] (fun i wr => ∃ k : Nat, k ≤ 25 ∧ i = .int .i64 k ∧ Hid (Below wc.heap.size wc wr)) (fun i _ => 25 - (intOf i).toNat)
    case atStart => exact ⟨0, Nat.zero_le _, rfl, Lib.hid (Below.refl _ _)⟩
    case round =>
      obtain ⟨k, hk, rfl, hl⟩ := hrel
      by_cases hlt : k < 25
      · obtain ⟨A1, n1, c1, word, want, t1, t2, hc1, hw1, hs1⟩ := HT8.out k hlt
        have x1 := pw_cell_below hl.out t1
        have x2 : wr.cell? ⟨(ad.add (k * 2)).block, (ad.add (k * 2)).off + 1, none⟩ = some (.string want) := by
          rw [← add_field ad (k * 2) 1 (by omega)]
          exact pw_cell_below hl.out t2
        have hk25 : (k : Int) < 25 := by omega
        have HS1 := Lib.hid (And.intro hw1 hs1)
        clear t1 t2 hw1 hs1
        go_wp2
        generalize hW : World.alloc _ _ = W1
        have HB1 := Lib.hid (show Below wc.heap.size wc W1 from hW ▸ hl.out.alloc hl.out.size _)
        have BX : Hid (W1.heap[wr.heap.size]? = some (.cells #[.slice A1 n1 c1, .string want] 53 (0, 0))) := Lib.hid (by rw [← hW]; exact heap_alloc_new wr _)
        have BV := Lib.hid (below_obj HB1.out HW8.out.2.1)
        clear hW x1 x2
        have b0 := (blk_cell BX.out 0).trans rfl
        have b1 := (blk_cell BX.out 1).trans rfl
        have v0 := (blk_cell BV.out 0).trans rfl
        have v1 := (blk_cell BV.out 1).trans rfl
        have v2 := (blk_cell BV.out 2).trans rfl
        go_region_held3 (fun w' => w'.cell? ⟨wr.heap.size, 0, none⟩ = some (.slice A1 n1 c1) ∧ w'.cell? ⟨wr.heap.size, 1, none⟩ = some (.string want) ∧ w'.cell? ⟨wv.heap.size, 0, none⟩ = some (.slice (some ⟨NL, 0, none⟩) 2 2) ∧ w'.cell? ⟨wv.heap.size, 1, none⟩ = some (.slice A 2 c) ∧ w'.cell? ⟨wv.heap.size, 2, none⟩ = some (.int .i64 7)) (go_keep) ((go_at_call 17; refine (said_w _ _ _ lawL lawA 7 word want A1 n1 c1 _ (VarsAt.below HW8.out.1 HB1.out.drew) (tab_below HT.out (HW8.out.2.2.trans (HB1.out.drew.mono HW8.out.2.2.size))) (by decide) (WordAt.below HS1.out.1 HB1.out.drew) hc1 HS1.out.2).mono ?_; rintro en ws ⟨rfl, hb⟩; have r0 := pw_cell_below hb (show W1.drew.cell? _ = _ from b0); have r1 := pw_cell_below hb (show W1.drew.cell? _ = _ from b1); have r2 := pw_cell_below hb (show W1.drew.cell? _ = _ from v0); have r3 := pw_cell_below hb (show W1.drew.cell? _ = _ from v1); have r4 := pw_cell_below hb (show W1.drew.cell? _ = _ from v2); have HBs := Lib.hid (HB1.out.drew.trans (hb.mono HB1.out.size)); clear hb))
        go_wp2
        go_roundw
        case rel => exact ⟨k + 1, by omega, by go_num, HBs⟩
        case measure => simp [intOf]; omega
      · have ek : k = 25 := by omega
        subst ek
        have HTw := Lib.hid (tab_below HT.out (HW8.out.2.2.trans (hl.out.mono HW8.out.2.2.size)))
        have HBw := Lib.hid (HW8.out.2.2.trans (hl.out.mono HW8.out.2.2.size))
        clear HT8
        go_wp2_with (go_at_call 14; refine (lit_w _ _).mono ?_; rintro en wl ⟨rfl, hb⟩; have HL := Lib.hid hb; clear hb)
        go_loopw [5, 4] (fun i dv wq => ∃ (j N : Nat), j ≤ 19 ∧ i = .int .i64 j ∧ dv = .slice (some ⟨N, 0, none⟩) 1 1 ∧ Hid (WordAt (j + 1) (fun _ => True) wq (some ⟨N, 0, none⟩) 1 (nest j)) ∧ Hid (Below wr.heap.size wr wq)) (fun i _ _ => 19 - (intOf i).toNat)
        case atStart => exact ⟨0, wl.heap.size, Nat.zero_le _, rfl, rfl, Lib.hid (row1 (heap_alloc_new _ _) (leaf_at _ _ _ _ _ _ _)), Lib.hid (HL.out.alloc HL.out.size _)⟩
        case round =>
          obtain ⟨j, N, hj, rfl, rfl, HWj, HBj⟩ := hrel
          by_cases hjl : j < 19
          · have hj19 : (j : Int) < 19 := by omega
            go_wp2_with (go_at_call 13; refine (par_w _ _ _ _ _ _ _).mono ?_; rintro en wp ⟨rfl, hb⟩; have HP := Lib.hid hb; clear hb)
            go_roundw
            case rel => exact ⟨j + 1, wp.heap.size, by omega, by go_num, rfl, Lib.hid (row1 (heap_alloc_new _ _) (part_at (WordAt.below HWj.out (HP.out.alloc HP.out.size _)) (Nat.le_refl _) _ _ _ _)), Lib.hid (HBj.out.trans ((HP.out.alloc HP.out.size _).mono HBj.out.size))⟩
            case measure => simp [intOf]; omega
          · have ej : j = 19 := by omega
            subst ej
            go_wp2_with (go_at_call 9; refine (Expand_nil _ _ _ _).mono ?_; rintro en wx ⟨rfl, rfl⟩)
            generalize hW : World.alloc _ _ = W1
            have HBc : Hid (Below wx.heap.size wx W1.drew) := Lib.hid (by rw [← hW]; exact (below_a wx _).drew)
            have BN : Hid (W1.heap[wx.heap.size]? = some (.cells #[.slice none 0 0, .slice none 0 0, .int .i64 0] 26 (0, 0))) := Lib.hid (by rw [← hW]; exact heap_alloc_new wx _)
            have HTq := Lib.hid (tab_below HTw.out HBj.out)
            clear hW
            have b0 := (blk_cell BN.out 0).trans rfl
            have b1 := (blk_cell BN.out 1).trans rfl
            have b2 := (blk_cell BN.out 2).trans rfl
            have r0 : W1.drew.cell? ⟨wx.heap.size, 0, none⟩ = some (.slice none 0 0) := b0
            have r1 : W1.drew.cell? ⟨wx.heap.size, 1, none⟩ = some (.slice none 0 0) := b1
            have r2 : W1.drew.cell? ⟨wx.heap.size, 2, none⟩ = some (.int .i64 0) := b2
            have FA : Hid True := Lib.hid trivial
            have FB : Hid True := Lib.hid trivial
            go_region_held3 (fun w' => w'.cell? ⟨wx.heap.size, 0, none⟩ = some (.slice none 0 0) ∧ w'.cell? ⟨wx.heap.size, 1, none⟩ = some (.slice none 0 0) ∧ w'.cell? ⟨wx.heap.size, 2, none⟩ = some (.int .i64 0)) (first | exact ⟨r0, r1, r2⟩ | exact ⟨keep_alloc _ r0, keep_alloc _ r1, keep_alloc _ r2⟩ | go_keep) (first
              | (go_at_call 17; clear FA; refine (said_w (d := 20) _ _ _ [] [] 0 (nest 19) _ _ _ _ _ (vars_none _) (tab_below HTq.out HBc.out) (by decide) (WordAt.below HWj.out HBc.out) (Nat.le_refl _) kd_1).mono ?_; rintro en ws ⟨rfl, hb⟩; replace r0 := pw_cell_below hb r0; replace r1 := pw_cell_below hb r1; replace r2 := pw_cell_below hb r2; replace HBc := Lib.hid (HBc.out.trans (hb.mono HBc.out.size)); clear hb)
              | (go_at_call 13; refine (par_w _ _ _ _ _ _ _).mono ?_; rintro en ws ⟨rfl, hb⟩; replace r0 := pw_cell_below hb r0; replace r1 := pw_cell_below hb r1; replace r2 := pw_cell_below hb r2; replace HBc := Lib.hid (HBc.out.trans (hb.mono HBc.out.size)); clear hb)
              | (go_at_call 17; clear FB; refine (said_w (d := 21) _ _ _ [] [] 0 (nest 20) _ _ _ _ _ (vars_none _) (tab_below HTq.out (HBc.out.alloc HBc.out.size _)) (by decide) (show WordAt 21 (fun _ => True) _ _ 1 (nest (19 + 1)) from row1 (heap_alloc_new _ _) (part_at (WordAt.below HWj.out (HBc.out.alloc HBc.out.size _)) (Nat.le_refl _) _ _ _ _)) (Nat.le_refl _) kd_2).mono ?_; rintro en ws ⟨rfl, hb⟩; replace r0 := pw_cell_below hb (keep_alloc _ r0); replace r1 := pw_cell_below hb (keep_alloc _ r1); replace r2 := pw_cell_below hb (keep_alloc _ r2); replace HBc := Lib.hid ((HBc.out.alloc HBc.out.size _).trans (hb.mono (HBc.out.alloc HBc.out.size _).size)); clear hb)
              | (go_at_call 17; refine (said_w (d := 1) _ _ _ [] [] 0 _ _ _ _ _ _ (vars_none _) (tab_below HTq.out (HBc.out.alloc HBc.out.size _)) (by decide) (row1 (heap_alloc_new _ _) (leaf_at _ _ _ _ _ _ _)) (Nat.le_refl _) kd_3).mono ?_; rintro en ws ⟨rfl, hb⟩; replace r0 := pw_cell_below hb (keep_alloc _ r0); replace r1 := pw_cell_below hb (keep_alloc _ r1); replace r2 := pw_cell_below hb (keep_alloc _ r2); replace HBc := Lib.hid ((HBc.out.alloc HBc.out.size _).trans (hb.mono (HBc.out.alloc HBc.out.size _).size)); clear hb)
              | (go_at_call 10; refine (works_w _ (tab_below HTq.out HBc.out)).mono ?_; rintro en ws ⟨rfl, hb⟩; replace r0 := pw_cell_below hb r0; replace r1 := pw_cell_below hb r1; replace r2 := pw_cell_below hb r2; replace HBc := Lib.hid (HBc.out.trans (hb.mono HBc.out.size)); clear hb))
            go_wp2
            go_ret
            exact ⟨rfl, HBw.out.trans ((HBj.out.trans (HBc.out.mono HBj.out.size)).mono HBw.out.size)⟩

end Go.Proofs.YthbnnlhkcaomlaaDoor.Ex
