/- The walk of assign. -/
import Derived.Test.YthbnnlhkcaomlaaDoorExLit
namespace Go.Proofs.YthbnnlhkcaomlaaDoor.Ex
open Go.RowKit Go.Shelf Go.Proofs.YthbnnlhkcaomlaaDoorW.PrintWords Go.Proofs.YthbnnlhkcaomlaaDoor.Gl

theorem made_reads {w w' : World} {A : Option Addr} {n c : Nat} {l : List Rn} (h : Made w w' A n c l) : n = l.length ∧ ReadsRn w' A l ∧ ∀ ad, A = some ad → 0 < l.length → ad.block < w'.heap.size := by
  obtain ⟨h1, h2, h3⟩ := Kd.R_reads' h.own
  refine ⟨h1, ⟨h3.1, h3.2.1, fun hn => ?_⟩, fun ad e _ => (own_ty h.own (k := ad.block) (by rw [e]; rfl)).lt⟩
  obtain ⟨ad, e, hc⟩ := h3.2.2 hn
  refine ⟨ad, e, fun j p hj => ?_⟩
  obtain ⟨cs, h4, h5, h6⟩ := hc j p hj
  exact ⟨cs, h4, kRn_K h5, h6⟩
/-- The word's rows as one text. -/
def textP (rows : List (List Rn)) : Option B := (flatP 0 rows []).bind fun out => if (charsOf out).length ≤ 1099511627776 then some ⟨(plainL out).toArray⟩ else none
theorem textP_some {rows : List (List Rn)} {v : B} (h : textP rows = some v) : ∃ out, flatP 0 rows [] = some out ∧ (charsOf out).length ≤ 1099511627776 ∧ v = ⟨(plainL out).toArray⟩ := by
  unfold textP at h
  rw [Option.bind_eq_some_iff] at h
  obtain ⟨out, h1, h2⟩ := h
  split at h2
  · rename_i hl
    cases h2
    exact ⟨out, h1, hl, rfl⟩
  · cases h2
def assignErr (x : ParamT) (er : Int) : Int := if er = 0 ∧ isNameP x.p.text = false then 2 else er
def assignP (W : List PartT → EnvT → Option Ans) (x : ParamT) (y : FT) (e : EnvT) : Option Res :=
  if x.missing then (W x.p.word e).bind fun a =>
    if assignErr x a.2.1 ≠ 0 then some (assignErr x a.2.1, y, a.2.2)
    else (textP a.1).bind fun v => (setE a.2.2 x.p.text v).bind fun s => if s.1 ≠ 0 then some (s.1, y, s.2) else tellP { x with value := v } y s.2
  else tellP x y e
theorem store_below {w W1 : World} (h : Below w.heap.size w W1) {N : Nat} (hN : w.heap.size ≤ N) (i : Nat) (u : Value) : Below w.heap.size w (W1.setCell ⟨N, i, none⟩ u) := h.setCell hN u

/-- A store into a box of a parameter's that neither owns. -/
theorem EnvAt.box {E : Nat → Prop} {w : World} {g N i : Nat} {e : EnvT} {u : Value} (h : EnvAt E w g e) (hN : ¬ E N) (ht : Ty w N 75) (hT : ¬ 0 = N) : EnvAt E (w.setCell ⟨N, i, none⟩ u) g e := by
  obtain ⟨lv, A, c, sv, h⟩ := h
  exact ⟨lv, A, c, sv, h.mod (S := fun k => k = N) ((Mod.refl (fun k => k = N) w).setCell (p := ⟨N, i, none⟩) (fun _ => rfl) u) (fun k hk he => hN (hk ▸ he)) (fun ad e1 e2 hs => (ht.ne (h.hE ad e1 e2).2 (by decide)) hs.symm) (fun k hk h2 => (ht.ne h2 (by decide)) hk.symm) hT⟩
theorem FldAt.box {S : Nat → Prop} {w : World} {f g N i : Nat} {deep : Int} {y : FT} {u : Value} (h : FldAt S w f g deep y) (hN : ¬ S N) (ht : Ty w N 75) : FldAt S (w.setCell ⟨N, i, none⟩ u) f g deep y := by
  obtain ⟨ov, lv, vs, h⟩ := h
  exact ⟨ov, lv, vs, h.mod (E := fun k => k = N) ((Mod.refl (fun k => k = N) w).setCell (p := ⟨N, i, none⟩) (fun _ => rfl) u) (fun k hk => ⟨fun hs => hN (hk ▸ hs), fun h2 => (ht.ne h2 (by decide)) hk.symm⟩)⟩
theorem fld_tab {S : Nat → Prop} {w : World} {f g : Nat} {deep : Int} {y : FT} (h : FldAt S w f g deep y) : 0 < w.heap.size := by obtain ⟨_, _, _, h⟩ := h; exact h.tabT

attribute [local go_sem] inv_set
set_option maxHeartbeats 3200000 in
set_option maxRecDepth 100000 in
theorem assign_m {W : List PartT → EnvT → Option Ans} {deep : Int} {d : Nat} (hX : ExpandOk (deep + 1) d W) (hd0 : 0 ≤ deep) (hd1 : deep ≤ 30) (S E P : Nat → Prop) (f g : Nat) (x : ParamT) (A : Option Addr) (n c : Nat) (ba : Option Addr) (A2 : Option Addr) (n2 c2 : Nat) (y y' : FT) (e e' : EnvT) (r : Int) (w : World) (H : FldAt S w f g deep y) (HE : EnvAt E w g e)
    (hw : WordAt d P w A n x.p.word) (hc : n ≤ c) (hP : ∀ k, P k → ¬ E k) (h : assignP W x y e = some (r, y', e')) :
    Calls Tryd.prog 30 #[.pointer (some ⟨f, 0, none⟩), paramV x (.slice A n c) (.pointer ba) (.slice A2 n2 c2)] w fun en w' => en = .returned (.int .i64 r) ∧ MPost S E w f g deep y' e' w' := by
  obtain ⟨p, v, st, l, mi⟩ := x
  have HH := Lib.hid (And.intro H HE)
  have HX := Lib.hid hX
  have HW := Lib.hid (And.intro hw (And.intro hc hP))
  clear hX hw hc hP H HE
  unfold assignP at h
  cases mi with
  | false =>
    have HT := Lib.hid (show tellP ⟨p, v, st, l, false⟩ y e = some (r, y', e') from h)
    clear h
    unfold paramV
    go_enter Tryd.func30, Tryd.ntmps30
    go_wp2_with (go_at_call 38; refine (tell_m S E f g deep ⟨p, v, st, l, false⟩ A n c ba A2 n2 c2 y y' e e' r _ (FldAt.below HH.out.1 (below_a _ _)) (EnvAt.below HH.out.2 (below_a _ _)) HT.out).mono ?_; rintro en w1 ⟨rfl, h1⟩; have H1 := Lib.hid h1; clear h1)
    go_ret
    exact ⟨rfl, .before (below_a _ _) H1.out⟩
  | true =>
    replace h : ((W p.word e).bind fun a => if assignErr ⟨p, v, st, l, true⟩ a.2.1 ≠ 0 then some (assignErr ⟨p, v, st, l, true⟩ a.2.1, y, a.2.2) else (textP a.1).bind fun v' => (setE a.2.2 p.text v').bind fun s => if s.1 ≠ 0 then some (s.1, y, s.2) else tellP ⟨p, v', st, l, true⟩ y s.2) = some (r, y', e') := h
    rw [Option.bind_eq_some_iff] at h
    obtain ⟨⟨rows, er, e1⟩, ha, h⟩ := h
    have HA := Lib.hid ha
    clear ha
    unfold assignErr at h
    dsimp only at h
    by_cases her : er = 0
    · subst her
      obtain ⟨nb, hnb⟩ : ∃ b, isNameP p.text = b := ⟨_, rfl⟩
      rw [hnb] at h
      have HN := Lib.hid hnb
      clear hnb
      cases nb with
      | false =>
        cases (show some ((2 : Int), y, e1) = some (r, y', e') from h)
        unfold paramV
        go_enter Tryd.func30, Tryd.ntmps30
        go_wp2_with (first
          | (go_at_call 41; refine (word_m HX.out hd0 hd1 S E P f g p A n c ba y e (rows, 0, _) _ (FldAt.below HH.out.1 (below_a _ _)) (EnvAt.below HH.out.2 (below_a _ _)) (WordAt.below HW.out.1 (below_a _ _)) HW.out.2.1 HW.out.2.2 HA.out).mono ?_; rintro en w1 ⟨A1, n1, c1, E', rfl, k2, k3, k4, k5, k6⟩; have HK := Lib.hid (And.intro k2 (And.intro k4 (And.intro k5 k6))); obtain ⟨q1, q2, q3⟩ := box_cells (keep_obj HH.out.2 k5 (Nat.le_refl _) (heap_alloc_new w _)); clear k2 k3 k4 k5 k6)
          | (go_at_call 42; refine (name_walk p.text _).mono ?_; rintro en w2 ⟨rfl, h1⟩; rw [HN.out]; have HB2 := Lib.hid h1; clear h1))
        go_ret
        exact ⟨rfl, .before (below_a _ _) (.after_env HK.out.2.2.1 HK.out.2.2.2 (.same (FldAt.env_of (FldAt.below HH.out.1 (below_a _ _)) (EnvAt.below HH.out.2 (below_a _ _)) HK.out.2.2.1) HK.out.2.1 HB2.out))⟩
      | true =>
        have h : ((textP rows).bind fun v' => (setE e1 p.text v').bind fun s => if s.1 ≠ 0 then some (s.1, y, s.2) else tellP ⟨p, v', st, l, true⟩ y s.2) = some (r, y', e') := h
        rw [Option.bind_eq_some_iff] at h
        obtain ⟨v', hv', h⟩ := h
        obtain ⟨out, hfl, hlo, rfl⟩ := textP_some hv'
        rw [Option.bind_eq_some_iff] at h
        obtain ⟨⟨sr, e2⟩, hs, h⟩ := h
        have HF := Lib.hid (And.intro hfl hlo)
        have HS := Lib.hid hs
        have h : (if sr ≠ 0 then some (sr, y, e2) else tellP ⟨p, ⟨(plainL out).toArray⟩, st, l, true⟩ y e2) = some (r, y', e') := h
        have HR := Lib.hid h
        have HN0 := Lib.hid (env_notF HH.out.1 HH.out.2)
        clear h hs hfl hlo hv'
        unfold paramV
        go_enter Tryd.func30, Tryd.ntmps30
        go_wp2_with (first
          | (go_at_call 41; refine (word_m HX.out hd0 hd1 S E P f g p A n c ba y e (rows, 0, e1) _ (FldAt.below HH.out.1 (below_a _ _)) (EnvAt.below HH.out.2 (below_a _ _)) (WordAt.below HW.out.1 (below_a _ _)) HW.out.2.1 HW.out.2.2 HA.out).mono ?_; rintro en w1 ⟨A1, n1, c1, E', rfl, k2, k3, k4, k5, k6⟩; have HK := Lib.hid (And.intro k2 (And.intro k4 (And.intro k5 k6))); have HO := Lib.hid (keep_obj HH.out.2 k5 (Nat.le_refl _) (heap_alloc_new w _)); obtain ⟨q1, q2, q3⟩ := box_cells HO.out; clear k2 k3 k4 k5 k6)
          | (go_at_call 42; refine (name_walk p.text _).mono ?_; rintro en w2 ⟨rfl, h1⟩; rw [HN.out]; have HB2 := Lib.hid h1; clear h1)
          | (go_at_call 44; refine (flat_walk rows out _ A1 n1 c1 _ (RowsAt.mod HK.out.1 (S := fun _ => False) (Mod.below HB2.out) (fun _ _ e => e)) HF.out.1).mono ?_; rintro en w3 ⟨A3, n3, c3, rfl, h1⟩; obtain rfl := (made_reads h1).1; have HB3 := Lib.hid (And.intro h1.bel (made_reads h1).2); clear h1)
          | (go_at_call 43; refine (plain_walk out A3 c3 _ HB3.out.2.2 HB3.out.2.1 HF.out.2).mono ?_; rintro en w4 ⟨rfl, h1⟩; have HB4 := Lib.hid ((HB2.out.trans (HB3.out.1.mono HB2.out.size)).trans (h1.mono (Nat.le_trans HB2.out.size HB3.out.1.size))); have HO4 := Lib.hid (below_obj HB4.out HO.out); obtain ⟨s1, s2, s3⟩ := box_cells HO4.out; clear h1))
        have hkN : ¬ E' w.heap.size := fun h => HN0.out.1 (HK.out.2.2.2 _ (by simp) h)
        have tN4 : Ty w4 w.heap.size 75 := ⟨_, _, HO4.out⟩
        have hnT : ¬ 0 = w.heap.size := Nat.ne_of_lt (fld_tab HH.out.1)
        have fld4 : FldAt S w4 f g deep y := FldAt.below (FldAt.env_of (FldAt.below HH.out.1 (below_a _ _)) (EnvAt.below HH.out.2 (below_a _ _)) HK.out.2.2.1) HB4.out
        have H5 := Lib.hid (And.intro (FldAt.box (i := 6) (u := .string ⟨(plainL out).toArray⟩) fld4 (fld_lt HH.out.1 (Nat.le_refl _)) tN4) (EnvAt.box (i := 6) (u := .string ⟨(plainL out).toArray⟩) (EnvAt.below HK.out.2.1 HB4.out) hkN tN4 hnT))
        have HM5 : Hid (Mod E w (w4.setCell ⟨w.heap.size, 6, none⟩ (.string ⟨(plainL out).toArray⟩))) := Lib.hid ((((Mod.below (below_a w _)).trans HK.out.2.2.1 (fun _ _ h => h)).trans (S' := fun _ => False) (Mod.below HB4.out) (fun _ _ e => e.elim)).setCell (p := ⟨w.heap.size, 6, none⟩) (fun hh => absurd hh (Nat.lt_irrefl _)) _)
        have HO5 := Lib.hid (heap_same_to (i := 6) (u := .string ⟨(plainL out).toArray⟩) (ds := #[.int .i64 p.kind, .string p.text, .string p.op, .bool p.quoted, .slice A n c, .pointer ba, .string ⟨(plainL out).toArray⟩, .bool st, .slice A2 n2 c2, .bool true]) HO4.out rfl)
        have HS5 : Hid (∀ k, k < w.heap.size → E' k → E k) := Lib.hid (fun k hk => HK.out.2.2.2 k (by simp; omega))
        clear q1 q2 q3 s1 s2 s3 tN4 hnT fld4
        generalize w4.setCell _ _ = W5 at H5 HM5 HO5 ⊢
        have d0 := fld_zero H5.out.1
        obtain ⟨s1, s2, s3⟩ := box_cells HO5.out
        have d1 : W5.cell? ⟨w.heap.size, 1, none⟩ = some (.string p.text) := (s1 1).trans rfl
        have d6 : W5.cell? ⟨w.heap.size, 6, none⟩ = some (.string ⟨(plainL out).toArray⟩) := (s1 6).trans rfl
        have HNE := Lib.hid (And.intro hkN (env_notF H5.out.1 H5.out.2).2)
        clear s1 s2 s3 hkN
        go_region_held3 (fun w' => w'.cell? ⟨f, 0, none⟩ = some (.iface 28 (.pointer (some ⟨g, 0, none⟩))) ∧ w'.cell? ⟨w.heap.size, 1, none⟩ = some (.string p.text) ∧ w'.cell? ⟨w.heap.size, 6, none⟩ = some (.string ⟨(plainL out).toArray⟩)) (go_keep) ((go_at_call 102; refine (set_walk E' g e1 e2 p.text _ sr _ (EnvAt.below H5.out.2 (Below.refl _ _).drew) HS.out).mono ?_; rintro en w6 ⟨rfl, E2, h1, h2, h3⟩; have q0 := Mod.cell h2 (show W5.drew.cell? _ = _ from d0) HNE.out.2; have q1 := Mod.cell h2 (show W5.drew.cell? _ = _ from d1) HNE.out.1; have q6 := Mod.cell h2 (show W5.drew.cell? _ = _ from d6) HNE.out.1; have HO6 := Lib.hid (Mod.obj h2 (show W5.drew.heap[w.heap.size]? = _ from HO5.out) HNE.out.1); have H6 := Lib.hid (And.intro h1 (And.intro (show Mod E' W5 w6 from (Mod.below (Below.refl _ _).drew).trans h2 (fun _ _ h => h)) h3)); clear h1 h2 h3))
        have HM6 : Hid (MPost S E w f g deep y e2 w6) := Lib.hid (.after_env HM5.out HS5.out ⟨S, E2, FldAt.env_of H5.out.1 H5.out.2 H6.out.2.1, H6.out.1, H6.out.2.1.mono (fun _ _ h => .inr h), fun _ _ h => h, H6.out.2.2⟩)
        obtain ⟨s1, s2, s3⟩ := box_cells HO6.out
        by_cases hsr : sr = 0
        · subst hsr
          have HT := Lib.hid (show tellP ⟨p, ⟨(plainL out).toArray⟩, st, l, true⟩ y e2 = some (r, y', e') from HR.out)
          go_wp2_with (go_at_call 38; refine (tell_m S E2 f g deep ⟨p, ⟨(plainL out).toArray⟩, st, l, true⟩ A n c ba A2 n2 c2 y y' e2 e' r _ (FldAt.env_of H5.out.1 H5.out.2 H6.out.2.1) H6.out.1 HT.out).mono ?_; rintro en w7 ⟨rfl, h1⟩; have H7 := Lib.hid h1; clear h1)
          go_ret
          exact ⟨rfl, .after_env HM5.out HS5.out (.after_env H6.out.2.1 H6.out.2.2 H7.out)⟩
        · have hx : some (sr, y, e2) = some (r, y', e') := by have := HR.out; rwa [if_pos hsr] at this
          cases hx
          go_wp2
          go_ret
          exact ⟨rfl, HM6.out⟩
    · have HER := Lib.hid her
      have he1 : ¬ (er = 0 ∧ isNameP p.text = false) := fun h => her h.1
      rw [if_neg he1, if_pos her] at h
      obtain ⟨rfl, rfl, rfl⟩ : er = r ∧ y = y' ∧ e1 = e' := by cases h; exact ⟨rfl, rfl, rfl⟩
      clear h
      clear her he1
      unfold paramV
      have hE0 : decide (er = 0) = false := decide_eq_false HER.out
      have hE1 : (er == 0) = false := by rw [beq_eq_false_iff_ne]; exact HER.out
      go_enter Tryd.func30, Tryd.ntmps30
      go_wp2_with (first
        | (go_at_call 41; refine (word_m HX.out hd0 hd1 S E P f g p A n c ba y e (rows, er, e1) _ (FldAt.below HH.out.1 (below_a _ _)) (EnvAt.below HH.out.2 (below_a _ _)) (WordAt.below HW.out.1 (below_a _ _)) HW.out.2.1 HW.out.2.2 HA.out).mono ?_; rintro en w1 ⟨A1, n1, c1, E', rfl, k2, k3, k4, k5, k6⟩; have HK := Lib.hid (And.intro k2 (And.intro k4 (And.intro k5 k6))); clear k2 k3 k4 k5 k6))
      go_ret
      exact ⟨rfl, .before (below_a _ _) (.after_env HK.out.2.2.1 HK.out.2.2.2 (.same (FldAt.env_of (FldAt.below HH.out.1 (below_a _ _)) (EnvAt.below HH.out.2 (below_a _ _)) HK.out.2.2.1) HK.out.2.1 (Below.refl _ _)))⟩

end Go.Proofs.YthbnnlhkcaomlaaDoor.Ex
