/- A new field; the walk of join. -/
import Derived.Test.YthbnnlhkcaomlaaDoorExRun
namespace Go.Proofs.YthbnnlhkcaomlaaDoor.Ex
open Go.RowKit Go.Shelf Go.Proofs.YthbnnlhkcaomlaaDoorW.PrintWords Go.Proofs.YthbnnlhkcaomlaaDoor.Gl

/-- Rows that are read: their blocks are of P. -/
def RowsAt (P : Nat → Prop) (w : World) (A : Option Addr) (n : Nat) (rows : List (List Rn)) : Prop :=
  rows.length = n ∧ n ≤ 9223372036854775807 ∧ (0 < n → ∃ ad, A = some ad ∧ P ad.block ∧ ∀ (j : Nat) row, rows[j]? = some row → ∃ A' c', w.cell? (ad.add j) = some (.slice A' row.length c') ∧ row.length ≤ c' ∧ kRn.C w A' row.length row ∧ ∀ a', A' = some a' → 0 < row.length → P a'.block)
theorem RowsAt.mod {P S : Nat → Prop} {w w' : World} {A : Option Addr} {n : Nat} {rows : List (List Rn)} (h : RowsAt P w A n rows) (hm : Mod S w w') (hP : ∀ k, P k → ¬ S k) : RowsAt P w' A n rows :=
  ⟨h.1, h.2.1, fun hn => by
    obtain ⟨ad, e, hp, hc⟩ := h.2.2 hn
    refine ⟨ad, e, hp, fun j row hj => ?_⟩
    obtain ⟨A', c', h1, h2, h3, h4⟩ := hc j row hj
    exact ⟨A', c', hm.cell h1 (by rw [add_block]; exact hP _ hp), h2, rn_C h3 hm (fun a' e1 e2 => hP _ (h4 a' e1 e2)), h4⟩⟩
theorem RowsAt.imp {P P' : Nat → Prop} {w : World} {A : Option Addr} {n : Nat} {rows : List (List Rn)} (h : RowsAt P w A n rows) (hP : ∀ k, P k → P' k) : RowsAt P' w A n rows :=
  ⟨h.1, h.2.1, fun hn => by
    obtain ⟨ad, e, hp, hc⟩ := h.2.2 hn
    refine ⟨ad, e, hP _ hp, fun j row hj => ?_⟩
    obtain ⟨A', c', h1, h2, h3, h4⟩ := hc j row hj
    exact ⟨A', c', h1, h2, h3, fun a' e1 e2 => hP _ (h4 a' e1 e2)⟩⟩
theorem rn_at {w : World} {A : Option Addr} {n : Nat} {xs : List Rn} (hC : kRn.C w A n xs) {i : Nat} {p : Rn} (hi : xs[i]? = some p) :
    ∃ ad, A = some ad ∧ w.cell? (ad.add (i * 3)) = some (.string p.t) ∧ w.cell? ⟨(ad.add (i * 3)).block, (ad.add (i * 3)).off + 1, none⟩ = some (.bool p.q) ∧ w.cell? ⟨(ad.add (i * 3)).block, (ad.add (i * 3)).off + 2, none⟩ = some (.bool p.s) := by
  have hlt := (List.getElem?_eq_some_iff.1 hi).1
  obtain ⟨ad, e, hc⟩ := hC.2.2 (by have := hC.1; omega)
  obtain ⟨cs, _, hr, hcell⟩ := hc i p hi
  obtain rfl := kRn_K hr
  exact ⟨ad, e, hcell 0 _ rfl, by rw [← add_field ad (i * 3) 1 (by omega)]; exact hcell 1 _ rfl, by rw [← add_field ad (i * 3) 2 (by omega)]; exact hcell 2 _ rfl⟩

section
variable {S : Nat → Prop} {w W w1 : World} {f g : Nat} {deep : Int} {x : FT} {ov : Value} {lv : Sl} {vs : List Sl}
/-- A new field has been appended. -/
theorem fld_row {A1 : Option Addr} {n1 c1 : Nat} (H : FldIn S W f g deep x ov lv vs) (hg : W.grownBy w1 ov.ownBlock) (hv : Own kSl 38 w1 (.slice A1 n1 c1) ((vs ++ [lv]) ++ [(none, 0, 0)]))
    (hat : (Value.slice A1 n1 c1).ownBlock = ov.ownBlock ∨ ∃ b, (Value.slice A1 n1 c1).ownBlock = some b ∧ W.heap.size ≤ b) :
    ∃ S', FldIn S' (w1.setCell ⟨f, 1, none⟩ (.slice A1 n1 c1)) f g deep ⟨x.init ++ [x.last], []⟩ (.slice A1 n1 c1) (none, 0, 0) (vs ++ [lv]) ∧ Mod S W (w1.setCell ⟨f, 1, none⟩ (.slice A1 n1 c1)) ∧ ∀ k, k < W.heap.size → S' k → S k := by
  have hm1 : Mod (fun k => ov.ownBlock = some k) W w1 := (Mod.refl _ W).grown hg (fun k hk _ => hk)
  have hof : ¬ ov.ownBlock = some f := fun e => (own_ty H.vO e).ne (blk_ty H.hb) (by decide) rfl
  have hb1 := hm1.obj H.hb hof
  have hgF : Mod (fun k => k = f) w1 (w1.setCell ⟨f, 1, none⟩ (.slice A1 n1 c1)) := (Mod.refl (fun k => k = f) w1).setCell (p := ⟨f, 1, none⟩) (fun _ => rfl) _
  have hm2 : Mod (fun k => ov.ownBlock = some k ∨ k = f) W (w1.setCell ⟨f, 1, none⟩ (.slice A1 n1 c1)) := (hm1.mono (fun _ _ h => .inl h)).trans hgF (fun _ _ h => .inr h)
  have hm : Mod S W (w1.setCell ⟨f, 1, none⟩ (.slice A1 n1 c1)) := hm2.mono (fun k _ h => by rcases h with h | rfl; exact H.oS k h; exact H.own)
  have hv1f : ∀ k, (Value.slice A1 n1 c1).ownBlock = some k → k ≠ f := by
    intro k hk
    rcases hat with h | ⟨b, h, hle⟩
    · rintro rfl; exact hof (h ▸ hk)
    · rw [h] at hk; cases hk; have := obj_lt H.hb; omega
  have hlt : ∀ k, (Value.slice A1 n1 c1).ownBlock = some k → k < W.heap.size → ov.ownBlock = some k := by
    intro k hk hl
    rcases hat with h | ⟨b, h, hle⟩
    · exact h ▸ hk
    · rw [h] at hk; cases hk; omega
  have hvO2 := own_keep (S := fun k => k = f) (fun _ _ _ _ h => h) hv hgF hv1f
  have hb2 : (w1.setCell ⟨f, 1, none⟩ (.slice A1 n1 c1)).heap[f]? = some (.cells #[.iface 28 (.pointer (some ⟨g, 0, none⟩)), .slice A1 n1 c1, .int .i64 deep] 69 (0, 0)) := (blk_set hb1 1 _).trans rfl
  obtain ⟨l1, l2, l3⟩ := Kd.R_reads' (show Own kRn 40 W (.slice lv.1 lv.2.1 lv.2.2) x.last from H.vL)
  have hty : ∀ ad, lv.1 = some ad → Ty W ad.block 40 := fun ad e => own_ty H.vL (by unfold Sl.v; rw [e]; rfl)
  have hnw : ∀ s, s ∈ vs ++ [lv] → ∀ ad : Addr, s.1 = some ad → f < ad.block := by
    intro s hs ad e
    rcases List.mem_append.1 hs with h | h
    · exact H.new s h ad e
    · obtain rfl : s = lv := by simpa using h
      exact H.lNew ad.block (by unfold Sl.v; rw [e]; rfl)
  have hno : ∀ ad : Addr, Ty W ad.block 40 → ¬ (ov.ownBlock = some ad.block ∨ ad.block = f) := by
    rintro ad ht (h | h)
    · exact (own_ty H.vO h).ne ht (by decide) rfl
    · exact (h ▸ ht).ne (blk_ty H.hb) (by decide) rfl
  have hno2 : ∀ ad : Addr, Ty W ad.block 40 → ¬ (ad.block = f ∨ (Value.slice A1 n1 c1).ownBlock = some ad.block) := by
    rintro ad ht (h | h)
    · exact hno ad ht (.inr h)
    · exact hno ad ht (.inl (hlt _ h ht.lt))
  refine ⟨fun k => k = f ∨ (Value.slice A1 n1 c1).ownBlock = some k, { hb := hb2, vO := hvO2, vL := Kd.R_nil _ _ _ _ _, hn := by simp [H.hn], hi := ?_, oS := fun _ h => .inr h, lS := fun k hk => by simp [Sl.v, Value.ownBlock] at hk, new := hnw, lNew := fun k hk => by simp [Sl.v, Value.ownBlock] at hk, own := .inl rfl, ty := ?_, tabS := ?_, tabT := Nat.lt_of_lt_of_le H.tabT hm.size }, hm, ?_⟩
  · intro j row s hj hs
    rcases Nat.lt_or_ge j x.init.length with hlt2 | hge
    · rw [List.getElem?_append_left hlt2] at hj
      rw [List.getElem?_append_left (by rw [H.hn]; exact hlt2)] at hs
      obtain ⟨e1, e2, e3, e4⟩ := H.hi j row s hj hs
      exact ⟨e1, e2, rn_C e3 hm2 (fun ad a b => hno ad (e4 ad a b).2), fun ad a b => ⟨hno2 ad (e4 ad a b).2, (e4 ad a b).2.mod hm2 (hno ad (e4 ad a b).2)⟩⟩
    · have hj' : j = x.init.length := by
        have := (List.getElem?_eq_some_iff.1 hj).1
        simp at this
        omega
      subst hj'
      obtain rfl : x.last = row := by simpa using hj
      obtain rfl : lv = s := by rw [← H.hn] at hs; simpa using hs
      refine ⟨l1, by omega, rn_C l3 hm2 (fun ad a b => hno ad (hty ad a)), fun ad a b => ⟨hno2 ad (hty ad a), (hty ad a).mod hm2 (hno ad (hty ad a))⟩⟩
  · rintro k (rfl | h)
    · exact .inl (blk_ty hb2)
    · exact .inr (.inl (own_ty hvO2 h))
  · rintro (h | h)
    · exact H.tabS (h ▸ H.own)
    · exact H.tabS (H.oS _ (hlt _ h H.tabT))
  · rintro k hk (rfl | h)
    · exact H.own
    · exact H.oS _ (hlt k h hk)
end
theorem fld_grownO {S : Nat → Prop} {W w1 : World} {f g : Nat} {deep : Int} {x : FT} {ov : Value} {lv : Sl} {vs : List Sl} (H : FldIn S W f g deep x ov lv vs) (hg : W.grownBy w1 ov.ownBlock) :
    w1.cell? ⟨f, 1, none⟩ = some ov ∧ w1.frozen? ⟨f, 1, none⟩ = false ∧ f < w1.heap.size := by
  have hm1 : Mod (fun k => ov.ownBlock = some k) W w1 := (Mod.refl _ W).grown hg (fun k hk _ => hk)
  have hb := hm1.obj H.hb (fun e => (own_ty H.vO e).ne (blk_ty H.hb) (by decide) rfl)
  exact ⟨(blk_cell hb 1).trans rfl, blk_frozen hb 1, obj_lt hb⟩
theorem join_zero {k : Nat} {row : List Rn} {rest : List (List Rn)} {y x' : FT} (h0 : k = 0) (h : joinP k (row :: rest) y = some x') : (putsP row y).bind (joinP (k + 1) rest) = some x' := by
  subst h0
  exact h
theorem join_pos {k : Nat} {row : List Rn} {rest : List (List Rn)} {y x' : FT} (h0 : 0 < k) (h : joinP k (row :: rest) y = some x') : y.init.length < big ∧ (putsP row ⟨y.init ++ [y.last], []⟩).bind (joinP (k + 1) rest) = some x' := by
  rw [joinP, if_pos h0] at h
  unfold newRow at h
  split at h
  · rename_i hl
    exact ⟨hl, h⟩
  · cases h
theorem puts_cons {r : Rn} {rs : List Rn} {y x' : FT} {F : FT → Option FT} (h : (putsP (r :: rs) y).bind F = some x') : ∃ z, putP y r = some z ∧ (putsP rs z).bind F = some x' := by
  rw [putsP] at h
  cases hp : putP y r with
  | none => rw [hp] at h; cases h
  | some z => rw [hp] at h; exact ⟨z, rfl, h⟩
theorem FldPost.trans {S S1 : Nat → Prop} {w w1 w2 : World} {f g : Nat} {deep : Int} {x' : FT} (hm : Mod S w w1) (hS : ∀ k, k < w.heap.size → S1 k → S k) (h : FldPost S1 w1 f g deep x' w2) : FldPost S w f g deep x' w2 := by
  obtain ⟨S', h1, h2, h3⟩ := h
  exact ⟨S', h1, hm.trans h2 hS, fun k hk he => hS k hk (h3 k (Nat.lt_of_lt_of_le hk hm.size) he)⟩

end Go.Proofs.YthbnnlhkcaomlaaDoor.Ex
