/- The walk of plain: a parameter as it is. -/
import Derived.Test.YthbnnlhkcaomlaaDoorExMeth
namespace Go.Proofs.YthbnnlhkcaomlaaDoor.Ex
open Go.RowKit Go.Shelf Go.Proofs.YthbnnlhkcaomlaaDoorW.PrintWords Go.Proofs.YthbnnlhkcaomlaaDoor.Gl

/-- Rows of one run each, that the call has made. -/
structure MadeRows (w w' : World) (A : Option Addr) (n c : Nat) (rows : List (List Rn)) : Prop where
  own : ∃ ss : List Sl, Own kSl 38 w' (.slice A n c) ss ∧ ss.length = rows.length ∧ ∀ (j : Nat) row s, rows[j]? = some row → ss[j]? = some s → s.2.1 = row.length ∧ row.length ≤ s.2.2 ∧ kRn.C w' s.1 row.length row ∧ ∀ ad, s.1 = some ad → w.heap.size ≤ ad.block ∧ Ty w' ad.block 40
  bel : Below w.heap.size w w'
  new : ∀ ad, A = some ad → w.heap.size ≤ ad.block
theorem MadeRows.none_ (w : World) : MadeRows w w none 0 0 [] := ⟨⟨[], Kd.R_nil _ _ _ _ _, rfl, fun j row s h => by simp at h⟩, Below.refl _ _, fun _ e => by cases e⟩
/-- One more: its box and its slice were just made. -/
theorem MadeRows.snoc {w W W2 w1 : World} {A A1 : Option Addr} {n c n1 c1 N : Nat} {rows : List (List Rn)} {r : Rn} (h : MadeRows w W A n c rows) {ss : List Sl} (ho : Own kSl 38 W (.slice A n c) ss) (hl : ss.length = rows.length)
    (hss : ∀ (j : Nat) row s, rows[j]? = some row → ss[j]? = some s → s.2.1 = row.length ∧ row.length ≤ s.2.2 ∧ kRn.C W s.1 row.length row ∧ ∀ ad, s.1 = some ad → w.heap.size ≤ ad.block ∧ Ty W ad.block 40) (hb : Below W.heap.size W W2) (hN : W.heap.size ≤ N) (hr : W2.heap[N]? = some (.cells #[.string r.t, .bool r.q, .bool r.s] 40 (0, 0)))
    (hv : Own kSl 38 w1 (.slice A1 n1 c1) (ss ++ [(some ⟨N, 0, none⟩, 1, 1)])) (hg : W2.grownBy w1 (Value.slice A n c).ownBlock) (hat : (Value.slice A1 n1 c1).ownBlock = (Value.slice A n c).ownBlock ∨ ∃ b, (Value.slice A1 n1 c1).ownBlock = some b ∧ W2.heap.size ≤ b) :
    MadeRows w w1 A1 n1 c1 (rows ++ [[r]]) := by
  have ho2 : Own kSl 38 W2 (.slice A n c) ss := own_keep (S := fun _ => False) (fun _ _ _ _ h => h) ho (Mod.below hb) (fun _ _ e => e)
  have hm : Mod (fun k => (Value.slice A n c).ownBlock = some k) W2 w1 := (Mod.refl _ _).grown hg (fun k hk _ => hk)
  have hno : ∀ ad : Addr, Ty W2 ad.block 40 → ¬ (Value.slice A n c).ownBlock = some ad.block := fun ad ht e => (own_ty ho2 e).ne ht (by decide) rfl
  have hb2 : Below w.heap.size w W2 := h.bel.trans (hb.mono h.bel.size)
  refine ⟨⟨ss ++ [(some ⟨N, 0, none⟩, 1, 1)], hv, by simp [hl], fun j row s hj hs => ?_⟩, hb2.grown hg hb2.size (fun k hk => ?_), fun ad e => ?_⟩
  · rcases Nat.lt_or_ge j rows.length with hlt | hge
    · rw [List.getElem?_append_left hlt] at hj
      rw [List.getElem?_append_left (by rw [hl]; exact hlt)] at hs
      obtain ⟨e1, e2, e3, e4⟩ := hss j row s hj hs
      have t2 : ∀ ad, s.1 = some ad → Ty W2 ad.block 40 := fun ad e => (e4 ad e).2.mod (S := fun _ => False) (Mod.below hb) (fun e => e)
      exact ⟨e1, e2, rn_C (Kd.C_below e3 hb) hm (fun ad a _ => hno ad (t2 ad a)), fun ad a => ⟨(e4 ad a).1, (t2 ad a).mod hm (hno ad (t2 ad a))⟩⟩
    · have hj' : j = rows.length := by
        have := (List.getElem?_eq_some_iff.1 hj).1
        simp at this
        omega
      subst hj'
      obtain rfl : [r] = row := by simpa using hj
      obtain rfl : (some ⟨N, 0, none⟩, 1, 1) = s := by rw [← hl] at hs; simpa using hs
      have tN : Ty W2 N 40 := ⟨_, _, hr⟩
      have hno' : ¬ (Value.slice A n c).ownBlock = some N := hno ⟨N, 0, none⟩ tN
      refine ⟨rfl, Nat.le_refl _, ⟨rfl, by simp, fun _ => ⟨_, rfl, fun i q hq => ?_⟩⟩, fun ad a => ?_⟩
      · obtain rfl : i = 0 := by have := (List.getElem?_eq_some_iff.1 hq).1; simp at this; exact this
        obtain rfl : r = q := by simpa using hq
        refine ⟨_, rfl, kRn_mk _ _, fun u v hu => ?_⟩
        have hcell : ∀ m, w1.cell? ⟨N, m, none⟩ = (#[Value.string r.t, .bool r.q, .bool r.s] : Array Value)[m]? := fun m => blk_cell (hm.obj hr hno') m
        rw [add_plain]
        simp only [Nat.zero_mul, Nat.zero_add]
        rw [hcell]
        simpa using hu
      · cases a
        exact ⟨Nat.le_trans h.bel.size hN, tN.mod hm hno'⟩
  · rcases A with _ | ad
    · simp [Value.ownBlock] at hk
    · simp only [Value.ownBlock, Option.some.injEq] at hk
      exact hk ▸ h.new ad rfl
  · subst e
    rcases hat with h1 | ⟨b, h1, h2⟩
    · rcases A with _ | ad2
      · simp [Value.ownBlock] at h1
      · simp only [Value.ownBlock, Option.some.injEq] at h1
        rw [h1]; exact h.new ad2 rfl
    · simp only [Value.ownBlock, Option.some.injEq] at h1
      rw [h1]; exact Nat.le_trans hb2.size h2
theorem MadeRows.over {w W W' : World} {A : Option Addr} {n c : Nat} {rows : List (List Rn)} (h : MadeRows w W A n c rows) (hb : Below W.heap.size W W') : MadeRows w W' A n c rows := by
  obtain ⟨ss, ho, hl, hss⟩ := h.own
  exact ⟨⟨ss, own_keep (S := fun _ => False) (fun _ _ _ _ h => h) ho (Mod.below hb) (fun _ _ e => e), hl, fun j row s hj hs => by
    obtain ⟨e1, e2, e3, e4⟩ := hss j row s hj hs
    exact ⟨e1, e2, Kd.C_below e3 hb, fun ad a => ⟨(e4 ad a).1, (e4 ad a).2.mod (S := fun _ => False) (Mod.below hb) (fun e => e)⟩⟩⟩, h.bel.trans (hb.mono h.bel.size), h.new⟩
theorem MadeRows.reads {w w' : World} {A : Option Addr} {n c : Nat} {rows : List (List Rn)} (h : MadeRows w w' A n c rows) : n = rows.length ∧ n ≤ c ∧ RowsAt (fun k => w.heap.size ≤ k ∧ k < w'.heap.size) w' A n rows := by
  obtain ⟨ss, ho, hl, hss⟩ := h.own
  obtain ⟨e1, e2, hC⟩ := Kd.R_reads' ho
  refine ⟨e1.trans hl, e2, hl ▸ e1.symm, by rw [e1]; exact hC.2.1, fun hn => ?_⟩
  obtain ⟨ad, ha, hc⟩ := hC.2.2 (by omega)
  refine ⟨ad, ha, ⟨h.new ad ha, (own_ty ho (by rw [ha]; rfl)).lt⟩, fun j row hj => ?_⟩
  have hjl := (List.getElem?_eq_some_iff.1 hj).1
  obtain ⟨s, hs⟩ : ∃ s, ss[j]? = some s := ⟨_, List.getElem?_eq_getElem (by omega)⟩
  obtain ⟨f1, f2, f3, f4⟩ := hss j row s hj hs
  obtain ⟨cs, _, hr, hcell⟩ := hc j s hs
  have hr : cs = [Sl.v s] := hr
  subst hr
  have h0 := hcell 0 _ rfl
  rw [show kSl.sz = 1 from rfl, Nat.mul_one, Nat.add_zero] at h0
  refine ⟨s.1, s.2.2, by rw [h0]; unfold Sl.v; rw [f1], f2, f3, fun a' ha' _ => ⟨(f4 a' ha').1, (f4 a' ha').2.lt⟩⟩


theorem fld_lt {S : Nat → Prop} {w : World} {f g : Nat} {deep : Int} {y : FT} (h : FldAt S w f g deep y) {k : Nat} (hk : w.heap.size ≤ k) : ¬ S k := by
  obtain ⟨ov, lv, vs, h⟩ := h
  intro he
  rcases h.ty k he with h | h | h <;> (have := h.lt; omega)
theorem args_take {x : PartT} {l : List B} {k : Nat} {a : B} (h : l[k]? = some a) : (l.take (k + 1)).map (fun s => [runP x s]) = (l.take k).map (fun s => [runP x s]) ++ [[runP x a]] := by
  rw [List.take_add_one, h]; simp

set_option linter.unusedSimpArgs false in
set_option maxHeartbeats 3200000 in
set_option maxRecDepth 100000 in
theorem plain_m (S E : Nat → Prop) (f g : Nat) (deep : Int) (x : ParamT) (A : Option Addr) (n c : Nat) (ba : Option Addr) (A2 : Option Addr) (c2 : Nat) (y y' : FT) (e e' : EnvT) (r : Int) (w : World) (H : FldAt S w f g deep y) (HE : EnvAt E w g e) (hC : Kd.string.C w A2 x.args.length x.args) (h : plainP x y e = some (r, y', e')) :
    Calls Tryd.prog 26 #[.pointer (some ⟨f, 0, none⟩), paramV x (.slice A n c) (.pointer ba) (.slice A2 x.args.length c2)] w fun en w' => en = .returned (.int .i64 r) ∧ MPost S E w f g deep y' e' w' := by
  have HH := Lib.hid (And.intro H HE)
  have hmx := hC.2.1
  have HC := Lib.hid hC
  clear H HE hC
  obtain ⟨p, v, st, l, mi⟩ := x
  obtain ⟨k, t, op, q, pw, pb⟩ := p
  have hT : (allP t = false ∨ (t = ⟨#[42]⟩ ∧ q = true) → tellP ⟨.mk k t op q pw pb, v, st, l, mi⟩ y e = some (r, y', e')) ∧ (allP t = true → ¬ (t = ⟨#[42]⟩ ∧ q = true) → l.length < big ∧ r = 0 ∧ e' = e ∧ joinP 0 (l.map fun s => [runP (.mk k t op q pw pb) s]) y = some y') := by
    unfold plainP at h
    refine ⟨fun hc => ?_, fun h1 h2 => ?_⟩
    · rw [if_pos (by rcases hc with hc | ⟨h1, h2⟩ <;> simp_all [PartT.text, PartT.quoted])] at h
      exact h
    · rw [if_neg (by intro hc; simp [PartT.text, PartT.quoted, h1] at hc; exact h2 ⟨of_decide_eq_true hc.1, hc.2⟩)] at h
      split at h
      · rename_i hl
        rw [Option.map_eq_some_iff] at h
        obtain ⟨z, hz, h⟩ := h
        cases h
        exact ⟨hl, rfl, rfl, hz⟩
      · cases h
  clear h
  have HTT := Lib.hid hT
  clear hT
  by_cases ha : allP t = true
  · have ht : t = ⟨#[64]⟩ ∨ t = ⟨#[42]⟩ := by simpa [allP] using ha
    by_cases hq : t = ⟨#[42]⟩ ∧ q = true
    · obtain ⟨rfl, rfl⟩ := hq
      have HT := Lib.hid (HTT.out.1 (.inr ⟨rfl, rfl⟩))
      clear ha ht
      unfold paramV
      simp only [PartT.kind, PartT.text, PartT.op, PartT.quoted]
      go_enter Tryd.func26, Tryd.ntmps26
      go_wp2_with (first
        | (go_at_call 35; refine (all_walk _ _).mono ?_; rintro en w1 ⟨rfl, rfl⟩; rw [show allP ⟨#[42]⟩ = true from rfl])
        | (go_at_call 38; refine (tell_m S E f g deep ⟨.mk k ⟨#[42]⟩ op true pw pb, v, st, l, mi⟩ A n c ba A2 l.length c2 y y' e e' r _ (FldAt.below HH.out.1 (below_a _ _)) (EnvAt.below HH.out.2 (below_a _ _)) HT.out).mono ?_; rintro en w2 ⟨rfl, h2⟩; have H2 := Lib.hid h2; clear h2))
      go_ret
      exact ⟨rfl, .before (below_a _ _) H2.out⟩
    · obtain ⟨hl, hr0, he0, hj⟩ := HTT.out.2 ha hq
      subst hr0 he0
      have hcase : (t = ⟨#[64]⟩) ∨ (t = ⟨#[42]⟩ ∧ q = false) := by
        rcases ht with h | h
        · exact .inl h
        · cases q with
          | true => exact absurd ⟨h, rfl⟩ hq
          | false => exact .inr ⟨h, rfl⟩
      have HJ := Lib.hid hj
      have HL := Lib.hid hl
      clear hq ha ht hj hl HTT
      obtain ⟨pp, hpp⟩ : ∃ pp, PartT.mk k t op q pw pb = pp := ⟨_, rfl⟩
      have HPP := Lib.hid hpp
      rw [hpp] at HJ
      rcases hcase with rfl | ⟨rfl, rfl⟩
      · clear hpp
        unfold paramV
        simp only [PartT.kind, PartT.text, PartT.op, PartT.quoted]
        go_enter Tryd.func26, Tryd.ntmps26
        go_wp2_with (go_at_call 35; refine (all_walk _ _).mono ?_; rintro en w1 ⟨rfl, rfl⟩; rw [show allP ⟨#[64]⟩ = true from rfl])
        go_loopw [30, 5] (fun i u wr => ∃ (j : Nat) (A1 : Option Addr) (n1 c1 : Nat), j ≤ l.length ∧ i = .int .i64 j ∧ u = .slice A1 n1 c1 ∧ Hid (MadeRows (w.alloc (.cells #[.int .i64 k, .string ⟨#[64]⟩, .string op, .bool q, .slice A n c, .pointer ba, .string v, .bool st, .slice A2 l.length c2, .bool mi] 75)) wr A1 n1 c1 ((l.take j).map fun s => [runP pp s]))) (fun i _ _ => l.length - (intOf i).toNat)
        case atStart => exact ⟨0, none, 0, 0, Nat.zero_le _, rfl, rfl, MadeRows.none_ _⟩
        case round =>
          obtain ⟨j, A1, n1, c1, hj, rfl, rfl, HQ⟩ := hrel
          by_cases hlt : j < l.length
          · obtain ⟨a, haj⟩ : ∃ a, l[j]? = some a := ⟨_, List.getElem?_eq_getElem hlt⟩
            obtain ⟨ad, rfl, hcc⟩ := HC.out.2.2 (by omega)
            obtain ⟨cs, _, hr1, hcell0⟩ := hcc j a haj
            have hr1 : cs = [.string a] := hr1
            subst hr1
            have hc0 := hcell0 0 _ rfl
            rw [show Kd.string.sz = 1 from rfl, Nat.mul_one, Nat.add_zero] at hc0
            have hcell := pw_cell_below ((below_a w _).trans (HQ.out.bel.mono (by simp))) hc0
            obtain ⟨p1, p2, p3⟩ := box_cells (below_obj HQ.out.bel (heap_alloc_new w _))
            have HAJ := Lib.hid haj
            obtain ⟨ss, s1, s2, s3⟩ := HQ.out.own
            have HSS := Lib.hid (And.intro s1 (And.intro s2 s3))
            clear hcc hcell0 hc0 haj s1 s2 s3
            go_wp2_with (first
              | (go_at_call 33; refine (run_walk (.mk k ⟨#[64]⟩ op q pw pb) A n c ba a _).mono ?_; rintro en w1 ⟨rfl, hb1⟩; have HB1 := Lib.hid hb1; clear hb1)
              | (at_builtin; refine ap_sl rfl (.tmp 34) (.tmp 40) rfl (.slice A1 n1 c1) ss ((some ⟨w1.heap.size, 0, none⟩, 1, 1) : Sl) rfl rfl (by simp) (own_keep (S := fun _ => False) (fun _ _ _ _ h => h) HSS.out.1 (Mod.below (HB1.out.alloc (HB1.out.size) _)) (fun _ _ e => e)) (by have h1 := HSS.out.2.1; rw [h1]; simp; have := HL.out; omega) ?_; intro A3 n3 c3 w3 hv hg hat
                 have HM := Lib.hid (MadeRows.snoc (r := runP pp a) (N := w1.heap.size) HQ.out HSS.out.1 HSS.out.2.1 HSS.out.2.2 (HB1.out.alloc HB1.out.size _) HB1.out.size (by rw [← HPP.out]; exact heap_alloc_new w1 _) hv hg hat); clear hv hg hat))
            go_roundw
            case rel => exact ⟨j + 1, A3, n3, c3, by omega, by go_num, rfl, by unfold Hid; rw [args_take HAJ.out]; exact HM.out⟩
            case measure => simp [intOf]; omega
          · go_wp2_with (go_at_call 39; refine (join_walk S f g deep y y' (l.map fun s => [runP pp s]) (fun q => w.heap.size ≤ q ∧ q < wr.heap.size) A1 n1 c1 wr (FldAt.below HH.out.1 ((below_a w _).trans (HQ.out.bel.mono (by simp)))) (by
              have h1 := HQ.out.reads.2.2.imp (P' := fun q => w.heap.size ≤ q ∧ q < wr.heap.size) (fun q hq => ⟨Nat.le_trans (by simp) hq.1, hq.2⟩)
              rwa [List.take_of_length_le (by omega)] at h1) (fun q hq => fld_lt HH.out.1 hq.1) HJ.out).mono ?_; rintro en w2 ⟨rfl, h2⟩; have H2 := Lib.hid h2; clear h2)
            go_ret
            exact ⟨rfl, .before ((below_a w _).trans (HQ.out.bel.mono (by simp))) (.of_fld (FldAt.below HH.out.1 ((below_a w _).trans (HQ.out.bel.mono (by simp)))) (EnvAt.below HH.out.2 ((below_a w _).trans (HQ.out.bel.mono (by simp)))) H2.out)⟩
      · clear hpp
        unfold paramV
        simp only [PartT.kind, PartT.text, PartT.op, PartT.quoted]
        go_enter Tryd.func26, Tryd.ntmps26
        go_wp2_with (go_at_call 35; refine (all_walk _ _).mono ?_; rintro en w1 ⟨rfl, rfl⟩; rw [show allP ⟨#[42]⟩ = true from rfl])
        go_loopw [30, 5] (fun i u wr => ∃ (j : Nat) (A1 : Option Addr) (n1 c1 : Nat), j ≤ l.length ∧ i = .int .i64 j ∧ u = .slice A1 n1 c1 ∧ Hid (MadeRows (w.alloc (.cells #[.int .i64 k, .string ⟨#[42]⟩, .string op, .bool false, .slice A n c, .pointer ba, .string v, .bool st, .slice A2 l.length c2, .bool mi] 75)) wr A1 n1 c1 ((l.take j).map fun s => [runP pp s]))) (fun i _ _ => l.length - (intOf i).toNat)
        case atStart => exact ⟨0, none, 0, 0, Nat.zero_le _, rfl, rfl, MadeRows.none_ _⟩
        case round =>
          obtain ⟨j, A1, n1, c1, hj, rfl, rfl, HQ⟩ := hrel
          by_cases hlt : j < l.length
          · obtain ⟨a, haj⟩ : ∃ a, l[j]? = some a := ⟨_, List.getElem?_eq_getElem hlt⟩
            obtain ⟨ad, rfl, hcc⟩ := HC.out.2.2 (by omega)
            obtain ⟨cs, _, hr1, hcell0⟩ := hcc j a haj
            have hr1 : cs = [.string a] := hr1
            subst hr1
            have hc0 := hcell0 0 _ rfl
            rw [show Kd.string.sz = 1 from rfl, Nat.mul_one, Nat.add_zero] at hc0
            have hcell := pw_cell_below ((below_a w _).trans (HQ.out.bel.mono (by simp))) hc0
            obtain ⟨p1, p2, p3⟩ := box_cells (below_obj HQ.out.bel (heap_alloc_new w _))
            have HAJ := Lib.hid haj
            obtain ⟨ss, s1, s2, s3⟩ := HQ.out.own
            have HSS := Lib.hid (And.intro s1 (And.intro s2 s3))
            clear hcc hcell0 hc0 haj s1 s2 s3
            go_wp2_with (first
              | (go_at_call 33; refine (run_walk (.mk k ⟨#[42]⟩ op false pw pb) A n c ba a _).mono ?_; rintro en w1 ⟨rfl, hb1⟩; have HB1 := Lib.hid hb1; clear hb1)
              | (at_builtin; refine ap_sl rfl (.tmp 34) (.tmp 40) rfl (.slice A1 n1 c1) ss ((some ⟨w1.heap.size, 0, none⟩, 1, 1) : Sl) rfl rfl (by simp) (own_keep (S := fun _ => False) (fun _ _ _ _ h => h) HSS.out.1 (Mod.below (HB1.out.alloc (HB1.out.size) _)) (fun _ _ e => e)) (by have h1 := HSS.out.2.1; rw [h1]; simp; have := HL.out; omega) ?_; intro A3 n3 c3 w3 hv hg hat
                 have HM := Lib.hid (MadeRows.snoc (r := runP pp a) (N := w1.heap.size) HQ.out HSS.out.1 HSS.out.2.1 HSS.out.2.2 (HB1.out.alloc HB1.out.size _) HB1.out.size (by rw [← HPP.out]; exact heap_alloc_new w1 _) hv hg hat); clear hv hg hat))
            go_roundw
            case rel => exact ⟨j + 1, A3, n3, c3, by omega, by go_num, rfl, by unfold Hid; rw [args_take HAJ.out]; exact HM.out⟩
            case measure => simp [intOf]; omega
          · go_wp2_with (go_at_call 39; refine (join_walk S f g deep y y' (l.map fun s => [runP pp s]) (fun q => w.heap.size ≤ q ∧ q < wr.heap.size) A1 n1 c1 wr (FldAt.below HH.out.1 ((below_a w _).trans (HQ.out.bel.mono (by simp)))) (by
              have h1 := HQ.out.reads.2.2.imp (P' := fun q => w.heap.size ≤ q ∧ q < wr.heap.size) (fun q hq => ⟨Nat.le_trans (by simp) hq.1, hq.2⟩)
              rwa [List.take_of_length_le (by omega)] at h1) (fun q hq => fld_lt HH.out.1 hq.1) HJ.out).mono ?_; rintro en w2 ⟨rfl, h2⟩; have H2 := Lib.hid h2; clear h2)
            go_ret
            exact ⟨rfl, .before ((below_a w _).trans (HQ.out.bel.mono (by simp))) (.of_fld (FldAt.below HH.out.1 ((below_a w _).trans (HQ.out.bel.mono (by simp)))) (EnvAt.below HH.out.2 ((below_a w _).trans (HQ.out.bel.mono (by simp)))) H2.out)⟩
  · have ha : allP t = false := by simpa using ha
    have HT := Lib.hid (HTT.out.1 (.inl ha))
    have HA := Lib.hid ha
    clear ha
    unfold paramV
    simp only [PartT.kind, PartT.text, PartT.op, PartT.quoted]
    go_enter Tryd.func26, Tryd.ntmps26
    go_wp2_with (first
      | (go_at_call 35; refine (all_walk _ _).mono ?_; rintro en w1 ⟨rfl, rfl⟩; rw [HA.out])
      | (go_at_call 38; refine (tell_m S E f g deep ⟨.mk k t op q pw pb, v, st, l, mi⟩ A n c ba A2 l.length c2 y y' e e' r _ (FldAt.below HH.out.1 (below_a _ _)) (EnvAt.below HH.out.2 (below_a _ _)) HT.out).mono ?_; rintro en w2 ⟨rfl, h2⟩; have H2 := Lib.hid h2; clear h2))
    go_ret
    exact ⟨rfl, .before (below_a _ _) H2.out⟩

end Go.Proofs.YthbnnlhkcaomlaaDoor.Ex
