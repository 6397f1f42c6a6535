/- The walk of flat. -/
import Derived.Test.YthbnnlhkcaomlaaDoorExJoinW
namespace Go.Proofs.YthbnnlhkcaomlaaDoor.Ex
open Go.RowKit Go.Shelf Go.Proofs.YthbnnlhkcaomlaaDoorW.PrintWords Go.Proofs.YthbnnlhkcaomlaaDoor.Gl

/-- A row that the call has made, and nothing else has changed. -/
structure Made (w w' : World) (A : Option Addr) (n c : Nat) (l : List Rn) : Prop where
  own : Own kRn 40 w' (.slice A n c) l
  bel : Below w.heap.size w w'
  new : ∀ ad, A = some ad → w.heap.size ≤ ad.block
theorem Made.grow {w W w1 : World} {A A1 : Option Addr} {n c n1 c1 : Nat} {l l1 : List Rn} (h : Made w W A n c l) (hv : Own kRn 40 w1 (.slice A1 n1 c1) l1) (hg : W.grownBy w1 (Value.slice A n c).ownBlock) (hat : (Value.slice A1 n1 c1).ownBlock = (Value.slice A n c).ownBlock ∨ ∃ b, (Value.slice A1 n1 c1).ownBlock = some b ∧ W.heap.size ≤ b) : Made w w1 A1 n1 c1 l1 where
  own := hv
  bel := h.bel.grown hg h.bel.size (fun k hk => by
    rcases A with _ | ad
    · simp [Value.ownBlock] at hk
    · simp only [Value.ownBlock, Option.some.injEq] at hk
      exact hk ▸ h.new ad rfl)
  new := fun ad e => by
    subst e
    rcases hat with h1 | ⟨b, h1, h2⟩
    · rcases A with _ | ad2
      · simp [Value.ownBlock] at h1
      · simp only [Value.ownBlock, Option.some.injEq] at h1
        rw [h1]; exact h.new ad2 rfl
    · simp only [Value.ownBlock, Option.some.injEq] at h1
      rw [h1]; exact Nat.le_trans h.bel.size h2
theorem Made.over {w W W' : World} {A : Option Addr} {n c : Nat} {l : List Rn} (h : Made w W A n c l) (hb : Below W.heap.size W W') : Made w W' A n c l where
  own := own_keep (S := fun _ => False) (fun _ _ _ _ h => h) h.own (Mod.below hb) (fun _ _ e => e)
  bel := h.bel.trans (hb.mono h.bel.size)
  new := h.new

theorem flat_cons {k : Nat} {row : List Rn} {rest : List (List Rn)} {acc out : List Rn} (h : flatP k (row :: rest) acc = some out) : acc.length < big ∧ row.length < big ∧ flatP (k + 1) rest ((if 0 < k then acc ++ [⟨⟨#[32]⟩, false, false⟩] else acc) ++ row) = some out := by
  rw [flatP] at h
  split at h
  · rename_i hl
    exact ⟨hl.1, hl.2, h⟩
  · cases h

set_option maxHeartbeats 3200000 in
set_option maxRecDepth 100000 in
theorem flat_walk (rows : List (List Rn)) (out : List Rn) (P : Nat → Prop) (A : Option Addr) (n c : Nat) (w : World) (hR : RowsAt P w A n rows) (h : flatP 0 rows [] = some out) :
    Calls Tryd.prog 44 #[.slice A n c] w fun en w' => ∃ A1 n1 c1, en = .returned (.slice A1 n1 c1) ∧ Made w w' A1 n1 c1 out := by
  obtain ⟨hn, hmx, hrd⟩ := id hR
  have HR := Lib.hid (hR.imp (P' := fun _ => True) (fun _ _ => trivial))
  have HJ0 := Lib.hid h
  have hnn := Lib.hid hn
  have HM0 : Made w w none 0 0 [] := ⟨Kd.R_nil _ _ _ _ _, Below.refl _ _, fun _ e => by cases e⟩
  have HQ0 := Lib.hid HM0
  clear hR h hrd hn HM0
  go_enter Tryd.func44, Tryd.ntmps44
  go_wp2
  go_loopw [8, 3] (fun i v wr => ∃ (k : Nat) (acc : List Rn) (A1 : Option Addr) (n1 c1 : Nat), k ≤ n ∧ i = .int .i64 k ∧ v = .slice A1 n1 c1 ∧ Hid (flatP k (rows.drop k) acc = some out) ∧ Hid (Made w wr A1 n1 c1 acc)) (fun i _ _ => n - (intOf i).toNat)
  case atStart => exact ⟨0, [], none, 0, 0, Nat.zero_le _, rfl, rfl, HJ0, HQ0⟩
  case round =>
    obtain ⟨k, acc, A1, n1, c1, hk, rfl, rfl, HJ, HQ⟩ := hrel
    by_cases hlt : k < n
    · obtain ⟨row, hrow⟩ : ∃ row, rows[k]? = some row := ⟨_, List.getElem?_eq_getElem (by rw [hnn.out]; exact hlt)⟩
      obtain ⟨ad, rfl, hp0, hc⟩ := HR.out.2.2 (by omega)
      obtain ⟨A', c', x1w, x2, x3, x4⟩ := hc k row hrow
      have x1 := pw_cell_below HQ.out.bel x1w
      obtain ⟨b1, b2, hf⟩ := flat_cons (drop_cons hrow ▸ HJ.out)
      have HX := Lib.hid x3
      have HB := Lib.hid (And.intro b1 b2)
      clear x1w hc hrow x3 x4 b1 b2 hp0 HJ
      by_cases h0 : k = 0
      · have hz : ¬ (0 : Int) < (k : Int) := by omega
        have hz2 : ¬ 0 < k := by omega
        rw [if_neg hz2] at hf
        have HF := Lib.hid hf
        clear h0 hf
        go_wp2_with (at_builtin; refine ap_rns rfl (.tmp 19) (.tmp 20) rfl (.slice A1 n1 c1) acc row A' row.length c' rfl rfl HQ.out.own (Kd.C_below HX.out HQ.out.bel) (by have h1 := HB.out.1; have h2 := HB.out.2; omega) ?_; intro A2 n2 c2 w1 hv hg hat; have HQ2 := Lib.hid (HQ.out.grow hv hg hat); clear hv hg hat)
        go_roundw
        case rel => exact ⟨k + 1, acc ++ row, A2, n2, c2, by omega, by go_num, rfl, HF, HQ2⟩
        case measure => simp [intOf]; omega
      · have hpos : 0 < k := by omega
        rw [if_pos hpos] at hf
        have HF := Lib.hid hf
        clear h0 hf
        go_wp2_with (first
          | (at_builtin; refine ap_rn rfl (.tmp 15) (.tmp 17) rfl (.slice A1 n1 c1) acc (⟨⟨#[32]⟩, false, false⟩ : Rn) rfl rfl (by simp) HQ.out.own HB.out.1 ?_; intro A2 n2 c2 w1 hv hg hat; have HQ2 := Lib.hid (HQ.out.grow hv hg hat); clear hv hg hat)
          | (at_builtin; refine ap_rns rfl (.tmp 19) (.tmp 20) rfl (.slice A2 n2 c2) (acc ++ [(⟨⟨#[32]⟩, false, false⟩ : Rn)]) row A' row.length c' rfl rfl HQ2.out.own (Kd.C_below HX.out HQ2.out.bel) (by have h1 := HB.out.1; have h2 := HB.out.2; simp; omega) ?_; intro A3 n3 c3 w2 hv hg hat; have HQ3 := Lib.hid (HQ2.out.grow hv hg hat); clear hv hg hat))
        go_roundw
        case rel => exact ⟨k + 1, _, A3, n3, c3, by omega, by go_num, rfl, HF, HQ3⟩
        case measure => simp [intOf]; omega
    · go_wp2
      go_ret
      have hj := HJ.out
      rw [List.drop_eq_nil_of_le (by rw [hnn.out]; omega)] at hj
      cases hj
      exact ⟨A1, n1, c1, rfl, HQ.out⟩

end Go.Proofs.YthbnnlhkcaomlaaDoor.Ex
