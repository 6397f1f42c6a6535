/- The walk of join. -/
import Derived.Test.YthbnnlhkcaomlaaDoorExJoin
import Derived.Deep.LoopGhost
namespace Go.Proofs.YthbnnlhkcaomlaaDoor.Ex
open Go.RowKit Go.Shelf Go.Proofs.YthbnnlhkcaomlaaDoorW.PrintWords Go.Proofs.YthbnnlhkcaomlaaDoor.Gl

set_option maxHeartbeats 3200000 in
set_option maxRecDepth 100000 in
theorem join_walk (S : Nat → Prop) (f g : Nat) (deep : Int) (x x' : FT) (rows : List (List Rn)) (P : Nat → Prop) (A : Option Addr) (n c : Nat) (w : World) (H : FldAt S w f g deep x) (hR : RowsAt P w A n rows) (hP : ∀ k, P k → ¬ S k) (h : joinP 0 rows x = some x') :
    Calls Tryd.prog 39 #[.pointer (some ⟨f, 0, none⟩), .slice A n c] w fun en w' => en = .returned (.tuple #[]) ∧ FldPost S w f g deep x' w' := by
  obtain ⟨hn, hmx, hrd⟩ := id hR
  have H0 : FldPost S w f g deep x w := ⟨S, H, Mod.refl _ _, fun _ _ h => h⟩
  have HR := Lib.hid hR
  have HP := Lib.hid hP
  have HY0 := Lib.hid H0
  have HJ0 := Lib.hid h
  have hnn := Lib.hid hn
  clear hR hP H0 h H hrd hn
  go_enter Tryd.func39, Tryd.ntmps39
  go_wp2
  go_loopw [10] (fun i wr => ∃ (k : Nat) (y : FT), k ≤ n ∧ i = .int .i64 k ∧ Hid (joinP k (rows.drop k) y = some x') ∧ Hid (FldPost S w f g deep y wr)) (fun i _ => n - (intOf i).toNat)
  case atStart => exact ⟨0, x, Nat.zero_le _, rfl, HJ0, HY0⟩
  case round =>
    obtain ⟨k, y, hk, rfl, HJ, HY⟩ := hrel
    by_cases hlt : k < n
    · obtain ⟨row, hrow⟩ : ∃ row, rows[k]? = some row := ⟨_, List.getElem?_eq_getElem (by rw [hnn.out]; exact hlt)⟩
      obtain ⟨S1, hy1, hy2, hy3⟩ := HY.out
      obtain ⟨ad, rfl, hp0, hc⟩ := HR.out.2.2 (by omega)
      obtain ⟨A', c', x1w, x2, x3, x4⟩ := hc k row hrow
      have x1 := hy2.cell x1w (by rw [add_block]; exact HP.out _ hp0)
      have hdr : rows.drop k = row :: rows.drop (k + 1) := drop_cons hrow
      have hrl : row.length ≤ 9223372036854775807 := x3.2.1
      obtain ⟨ov, lv, vs, hf⟩ := hy1
      obtain ⟨og, oc, rfl⟩ := fld_form hf
      generalize hvn : vs.length = m at hf
      obtain ⟨-, c0, c1, c2, f1, cl, fl, ft, ot, ne⟩ := fld_cells hf
      have HF := Lib.hid hf
      have HM := Lib.hid (And.intro hy2 hy3)
      have HX := Lib.hid (And.intro x3 x4)
      have HJ1 := Lib.hid (hdr ▸ HJ.out)
      have HN : Hid (y.init.length + 1 = m + 1) := by have := hf.hn; unfold Hid; omega
      clear hf hy2 hy3 x3 x4 hdr hvn hc hrow x1w HJ
      have key : ∀ (z : FT) (W : World), FldPost S w f g deep z W → (putsP row z).bind (joinP (k + 1) (rows.drop (k + 1))) = some x' → True := fun _ _ _ _ => trivial
      clear key
      by_cases h0 : k = 0
      · have hz : ¬ (0 : Int) < (k : Int) := by omega
        have hz2 : ¬ 0 < k := by omega
        have HJ2 := Lib.hid (join_zero h0 HJ1.out)
        clear h0 HJ1
        go_wp2
        clear c0 c1 c2 f1 cl fl ft ot ne hz hz2 HF HM x1 HN
        generalize y = y1 at HJ2 HY
        generalize wr = W2 at HY ⊢
        go_loopw [28] (fun j wr2 => ∃ (q : Nat) (z : FT), q ≤ row.length ∧ j = .int .i64 q ∧ Hid ((putsP (row.drop q) z).bind (joinP (k + 1) (rows.drop (k + 1))) = some x') ∧ Hid (FldPost S w f g deep z wr2)) (fun j _ => row.length - (intOf j).toNat)
        case atStart => exact ⟨0, y1, Nat.zero_le _, rfl, HJ2, HY⟩
        case round =>
          obtain ⟨q, z, hq, rfl, HZ, HYz⟩ := hrel
          by_cases hql : q < row.length
          · obtain ⟨r, hr⟩ : ∃ r, row[q]? = some r := ⟨_, List.getElem?_eq_getElem hql⟩
            obtain ⟨S2, hz1, hz2, hz3⟩ := HYz.out
            obtain ⟨ar, rfl, r1, r2, r3⟩ := rn_at (rn_C HX.out.1 hz2 (fun a' e1 e2 => HP.out _ (HX.out.2 a' e1 e2))) hr
            have hz4 := HZ.out
            rw [drop_cons hr] at hz4
            obtain ⟨z', hz5, hz6⟩ := puts_cons hz4
            have HZ2 := Lib.hid (And.intro hz1 (And.intro hz5 hz6))
            have HZM := Lib.hid (And.intro hz2 hz3)
            clear hz1 hz2 hz3 hz4 hz5 hz6 hr
            obtain ⟨rt, rq, rs⟩ := r
            go_wp2_with (go_at_call 24; refine (put_walk S2 f g deep z z' ⟨rt, rq, rs⟩ _ (FldAt.below HZ2.out.1 (below_a _ _)) HZ2.out.2.1).mono ?_; rintro e w2 ⟨rfl, hb2⟩; have HB2 := Lib.hid hb2; clear hb2)
            go_roundw
            case rel => exact ⟨q + 1, z', by omega, by go_num, Lib.hid HZ2.out.2.2, Lib.hid (FldPost.trans HZM.out.1 HZM.out.2 (FldPost.trans (Mod.below (below_a _ _)) (fun _ _ h => h) HB2.out))⟩
            case measure => simp [intOf]; omega
          · go_wp2
            go_roundw
            case rel =>
              have hz := HZ.out
              rw [List.drop_eq_nil_of_le (by omega)] at hz
              exact ⟨k + 1, z, by omega, by go_num, Lib.hid hz, HYz⟩
            case measure => simp [intOf]; omega
      · have hpos : 0 < k := by omega
        have HJ2 := Lib.hid (join_pos hpos HJ1.out)
        clear h0 HJ1
        go_wp2_with (at_builtin; refine ap_sl rfl (.tmp 21) (.tmp 22) rfl (.slice (some ⟨og, 0, none⟩) (m + 1) oc) (vs ++ [lv]) ((none, 0, 0) : Sl) rfl rfl (by simp) HF.out.vO (by have h1 := HJ2.out.1; have h3 := HF.out.hn; simp only [List.length_append, List.length_singleton]; omega) ?_; intro A1 n1 cc1 w1 hv hg hat; have HQ := Lib.hid (fld_row HF.out hg hv hat); obtain ⟨d1, e1, et⟩ := fld_grownO HF.out hg; clear hv hg hat)
        obtain ⟨S3, hq1, hq2, hq3⟩ := HQ.out
        have HY1 : Hid (FldPost S w f g deep ⟨y.init ++ [y.last], []⟩ (w1.setCell ⟨f, 1, none⟩ (.slice A1 n1 cc1))) := FldPost.trans HM.out.1 HM.out.2 ⟨S3, hq1.at_, hq2, hq3⟩
        have HJ3 := Lib.hid HJ2.out.2
        clear c0 c1 c2 f1 cl fl ft ot ne HF HM x1 HN HQ d1 e1 et hq1 hq2 hq3 HJ2 HY
        generalize (⟨y.init ++ [y.last], []⟩ : FT) = y1 at HJ3 HY1
        generalize w1.setCell ⟨f, 1, none⟩ (.slice A1 n1 cc1) = W2 at HY1 ⊢
        go_loopw [28] (fun j wr2 => ∃ (q : Nat) (z : FT), q ≤ row.length ∧ j = .int .i64 q ∧ Hid ((putsP (row.drop q) z).bind (joinP (k + 1) (rows.drop (k + 1))) = some x') ∧ Hid (FldPost S w f g deep z wr2)) (fun j _ => row.length - (intOf j).toNat)
        case atStart => exact ⟨0, y1, Nat.zero_le _, rfl, HJ3, HY1⟩
        case round =>
          obtain ⟨q, z, hq, rfl, HZ, HYz⟩ := hrel
          by_cases hql : q < row.length
          · obtain ⟨r, hr⟩ : ∃ r, row[q]? = some r := ⟨_, List.getElem?_eq_getElem hql⟩
            obtain ⟨S2, hz1, hz2, hz3⟩ := HYz.out
            obtain ⟨ar, rfl, r1, r2, r3⟩ := rn_at (rn_C HX.out.1 hz2 (fun a' e1 e2 => HP.out _ (HX.out.2 a' e1 e2))) hr
            have hz4 := HZ.out
            rw [drop_cons hr] at hz4
            obtain ⟨z', hz5, hz6⟩ := puts_cons hz4
            have HZ2 := Lib.hid (And.intro hz1 (And.intro hz5 hz6))
            have HZM := Lib.hid (And.intro hz2 hz3)
            clear hz1 hz2 hz3 hz4 hz5 hz6 hr
            obtain ⟨rt, rq, rs⟩ := r
            go_wp2_with (go_at_call 24; refine (put_walk S2 f g deep z z' ⟨rt, rq, rs⟩ _ (FldAt.below HZ2.out.1 (below_a _ _)) HZ2.out.2.1).mono ?_; rintro e w2 ⟨rfl, hb2⟩; have HB2 := Lib.hid hb2; clear hb2)
            go_roundw
            case rel => exact ⟨q + 1, z', by omega, by go_num, Lib.hid HZ2.out.2.2, Lib.hid (FldPost.trans HZM.out.1 HZM.out.2 (FldPost.trans (Mod.below (below_a _ _)) (fun _ _ h => h) HB2.out))⟩
            case measure => simp [intOf]; omega
          · go_wp2
            go_roundw
            case rel =>
              have hz := HZ.out
              rw [List.drop_eq_nil_of_le (by omega)] at hz
              exact ⟨k + 1, z, by omega, by go_num, Lib.hid hz, HYz⟩
            case measure => simp [intOf]; omega
    · go_wp2
      go_end0
      obtain ⟨S', h1, h2, h3⟩ := HY.out
      have e : rows.drop k = [] := List.drop_eq_nil_of_le (by rw [hnn.out]; omega)
      have hj := HJ.out
      rw [e] at hj
      cases hj
      exact ⟨rfl, S', h1, h2, h3⟩

end Go.Proofs.YthbnnlhkcaomlaaDoor.Ex
