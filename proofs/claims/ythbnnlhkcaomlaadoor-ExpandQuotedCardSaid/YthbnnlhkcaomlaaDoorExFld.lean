/- The fields: what a put and a new row leave; the walk of put. -/
import Derived.Test.YthbnnlhkcaomlaaDoorExSub
namespace Go.Proofs.YthbnnlhkcaomlaaDoor.Ex
open Go.RowKit Go.Shelf Go.Proofs.YthbnnlhkcaomlaaDoorW.PrintWords Go.Proofs.YthbnnlhkcaomlaaDoor.Gl

/-- Behind a method of the fields that leaves the environment alone. -/
def FldPost (S : Nat → Prop) (w : World) (f g : Nat) (deep : Int) (x' : FT) (w' : World) : Prop := ∃ S', FldAt S' w' f g deep x' ∧ Mod S w w' ∧ ∀ k, k < w.heap.size → S' k → S k

section
variable {S : Nat → Prop} {w W w1 : World} {f g : Nat} {deep : Int} {x : FT} {ov : Value} {lv : Sl} {vs : List Sl}
theorem FldIn.below (h : FldIn S w f g deep x ov lv vs) (hb : Below w.heap.size w W) : FldIn S W f g deep x ov lv vs := h.mod (E := fun _ => False) (Mod.below hb) (fun _ e => e.elim)
theorem FldIn.at_ (h : FldIn S w f g deep x ov lv vs) : FldAt S w f g deep x := ⟨ov, lv, vs, h⟩
structure FldCells (w : World) (f g : Nat) (deep : Int) (og n oc : Nat) (lv : Sl) : Prop where
  c0 : w.cell? ⟨f, 0, none⟩ = some (.iface 28 (.pointer (some ⟨g, 0, none⟩)))
  c1 : w.cell? ⟨f, 1, none⟩ = some (.slice (some ⟨og, 0, none⟩) (n + 1) oc)
  c2 : w.cell? ⟨f, 2, none⟩ = some (.int .i64 deep)
  f1 : w.frozen? ⟨f, 1, none⟩ = false
  cl : w.cell? ⟨og, n, none⟩ = some (.slice lv.1 lv.2.1 lv.2.2)
  fl : w.frozen? ⟨og, n, none⟩ = false
  ft : f < w.heap.size
  ot : og < w.heap.size
  ne : ¬ og = f
theorem len_snoc {n og oc : Nat} (hn : vs.length = n) (ho : w.ownsRow 0 38 1 (.slice (some ⟨og, 0, none⟩) (n + 1) oc) (vs ++ [lv]).length (encs Sl.v (vs ++ [lv]))) : w.ownsRow 0 38 1 (.slice (some ⟨og, 0, none⟩) (n + 1) oc) (n + 1) (encs Sl.v (vs ++ [lv])) := by
  rw [List.length_append, hn] at ho
  exact ho
theorem fld_form (h : FldIn S w f g deep x ov lv vs) : ∃ og oc, ov = .slice (some ⟨og, 0, none⟩) (vs.length + 1) oc := by
  obtain ⟨og, oc, e, _⟩ := Kd.R_form h.vO (by simp)
  exact ⟨og, oc, by rw [e]; simp⟩
theorem fld_cells {og n oc : Nat} (h : FldIn S w f g deep x (.slice (some ⟨og, 0, none⟩) (n + 1) oc) lv vs) : vs.length = n ∧ FldCells w f g deep og n oc lv := by
  have ho := Kd.own_of_R h.vO
  have hn : vs.length = n := by have := (Kd.R_reads' h.vO).1; simp at this; omega
  have ho' : w.ownsRow 0 38 1 (.slice (some ⟨og, 0, none⟩) (n + 1) oc) (n + 1) (encs Sl.v (vs ++ [lv])) := len_snoc hn ho
  have ha := own_at_of (d := ((none, 0, 0) : Sl)) ho' (n : Int) (by omega) (by omega)
  have e : rdOf ((none, 0, 0) : Sl) (vs ++ [lv]) (n : Int) = lv := by
    unfold rdOf
    rw [show ((n : Int)).toNat = n from rfl, ← hn, List.getD_eq_getElem?_getD, List.getElem?_append_right (Nat.le_refl _)]
    simp
  rw [e] at ha
  have hot := own_ty h.vO (k := og) rfl
  exact ⟨hn, (blk_cell h.hb 0).trans rfl, (blk_cell h.hb 1).trans rfl, (blk_cell h.hb 2).trans rfl, blk_frozen h.hb 1, ha.1, ha.2, obj_lt h.hb, hot.lt, hot.ne (blk_ty h.hb) (by decide)⟩

theorem fld_grown {og n oc : Nat} (H : FldIn S W f g deep x (.slice (some ⟨og, 0, none⟩) (n + 1) oc) lv vs) (hg : W.grownBy w1 lv.v.ownBlock) : FldCells w1 f g deep og n oc lv := by
  obtain ⟨_, h⟩ := fld_cells H
  have hm1 : Mod (fun k => lv.v.ownBlock = some k) W w1 := (Mod.refl _ W).grown hg (fun k hk _ => hk)
  have n1 : ¬ lv.v.ownBlock = some og := fun e => (own_ty H.vL e).ne (own_ty H.vO rfl) (by decide) rfl
  have n2 : ¬ lv.v.ownBlock = some f := fun e => (own_ty H.vL e).ne (blk_ty H.hb) (by decide) rfl
  have hb := hm1.obj H.hb n2
  obtain ⟨c, fr, ho⟩ := own_ty H.vO (k := og) rfl
  have hfo : w1.frozen? ⟨og, n, none⟩ = W.frozen? ⟨og, n, none⟩ := World.frozen?_of_block (w := W) (hm1.block og h.ot n1)
  exact ⟨(blk_cell hb 0).trans rfl, (blk_cell hb 1).trans rfl, (blk_cell hb 2).trans rfl, blk_frozen hb 1, hm1.cell h.cl n1, hfo.trans h.fl, obj_lt hb, Nat.lt_of_lt_of_le h.ot hm1.size, h.ne⟩
theorem below_aa (w : World) (o p : Obj) : Below w.heap.size w ((w.alloc o).alloc p) := (below_a w o).alloc (by simp) _
theorem below_aad (w : World) (o p : Obj) : Below w.heap.size w ((w.alloc o).alloc p).drew := (below_aa w o p).drew

/-- The last row has been written. -/
theorem fld_put {r : Rn} {og n oc : Nat} {A1 : Option Addr} {n1 c1 : Nat} (H0 : FldIn S w f g deep x (.slice (some ⟨og, 0, none⟩) (n + 1) oc) lv vs) (hb : Below w.heap.size w W) (hg : W.grownBy w1 lv.v.ownBlock) (hv : Own kRn 40 w1 (.slice A1 n1 c1) (x.last ++ [r]))
    (hat : (Value.slice A1 n1 c1).ownBlock = lv.v.ownBlock ∨ ∃ b, (Value.slice A1 n1 c1).ownBlock = some b ∧ W.heap.size ≤ b) :
    ∃ S', FldIn S' (w1.setCell ⟨og, n, none⟩ (.slice A1 n1 c1)) f g deep ⟨x.init, x.last ++ [r]⟩ (.slice (some ⟨og, 0, none⟩) (n + 1) oc) (A1, n1, c1) vs ∧ Mod S w (w1.setCell ⟨og, n, none⟩ (.slice A1 n1 c1)) ∧ ∀ k, k < w.heap.size → S' k → S k := by
  have H := H0.below hb
  have hn := (fld_cells H).1
  have hSo : S og := H.oS og rfl
  have hm1 : Mod (fun k => lv.v.ownBlock = some k) W w1 := (Mod.refl _ W).grown hg (fun k hk _ => hk)
  have hl_ne : ∀ k, lv.v.ownBlock = some k → k ≠ og ∧ k ≠ f := fun k hk => ⟨(own_ty H.vL hk).ne (own_ty H.vO rfl) (by decide), (own_ty H.vL hk).ne (blk_ty H.hb) (by decide)⟩
  have hgO : Mod (fun k => k = og) w1 (w1.setCell ⟨og, n, none⟩ (.slice A1 n1 c1)) := (Mod.refl (fun k => k = og) w1).setCell (p := ⟨og, n, none⟩) (fun _ => rfl) _
  have hm2 : Mod (fun k => lv.v.ownBlock = some k ∨ k = og) W (w1.setCell ⟨og, n, none⟩ (.slice A1 n1 c1)) := (hm1.mono (fun _ _ h => .inl h)).trans hgO (fun _ _ h => .inr h)
  have hm : Mod S W (w1.setCell ⟨og, n, none⟩ (.slice A1 n1 c1)) := hm2.mono (fun k _ h => by rcases h with h | rfl; exact H.lS k h; exact hSo)
  have hvO1 : Own kSl 38 w1 (.slice (some ⟨og, 0, none⟩) (n + 1) oc) (vs ++ [lv]) := own_keep (fun _ _ _ _ h => h) H.vO hm1 (fun k hk hs => by
    simp only [Value.ownBlock, Option.some.injEq] at hk
    exact (hl_ne k hs).1 hk.symm)
  have hvO2 : Own kSl 38 (w1.setCell ⟨og, n, none⟩ (.slice A1 n1 c1)) (.slice (some ⟨og, 0, none⟩) (n + 1) oc) (vs ++ [(A1, n1, c1)]) := by
    have ho := Kd.own_of_R hvO1
    have ho' : w1.ownsRow 0 38 1 (.slice (some ⟨og, 0, none⟩) (n + 1) oc) (n + 1) (encs Sl.v (vs ++ [lv])) := len_snoc hn ho
    have h2 := (own_store_of ho' (n : Int) ((A1, n1, c1) : Sl)).1
    have e : (vs ++ [lv]).set ((n : Int)).toNat ((A1, n1, c1) : Sl) = vs ++ [(A1, n1, c1)] := by
      rw [show ((n : Int)).toNat = n from rfl, ← hn, List.set_append_right _ _ (Nat.le_refl _)]
      simp
    rw [e] at h2
    exact Kd.R_of_own (by rw [List.length_append, hn]; exact h2) (fun _ _ => trivial)
  have hv1og : ∀ k, (Value.slice A1 n1 c1).ownBlock = some k → k ≠ og ∧ k ≠ f := by
    intro k hk
    rcases hat with h | ⟨b, h, hle⟩
    · exact hl_ne k (h ▸ hk)
    · rw [h] at hk
      cases hk
      have h1 := (own_ty H.vO (k := og) rfl).lt
      have h2 := obj_lt H.hb
      omega
  have hnw : ∀ k, (Value.slice A1 n1 c1).ownBlock = some k → f < k := by
    intro k hk
    rcases hat with h | ⟨b, h, hle⟩
    · exact H.lNew k (h ▸ hk)
    · rw [h] at hk
      cases hk
      exact Nat.lt_of_lt_of_le (obj_lt H.hb) hle
  have hlt : ∀ k, (Value.slice A1 n1 c1).ownBlock = some k → k < W.heap.size → S k := by
    intro k hk hl
    rcases hat with h | ⟨b, h, hle⟩
    · exact H.lS k (h ▸ hk)
    · rw [h] at hk; cases hk; omega
  have hvL2 : Own kRn 40 (w1.setCell ⟨og, n, none⟩ (.slice A1 n1 c1)) (.slice A1 n1 c1) (x.last ++ [r]) := own_keep (fun _ _ _ _ h => h) hv hgO (fun k hk => (hv1og k hk).1)
  have hbf : (w1.setCell ⟨og, n, none⟩ (.slice A1 n1 c1)).heap[f]? = some (.cells #[.iface 28 (.pointer (some ⟨g, 0, none⟩)), .slice (some ⟨og, 0, none⟩) (n + 1) oc, .int .i64 deep] 69 (0, 0)) :=
    hm2.obj H.hb (fun h => by rcases h with h | h; exact (hl_ne f h).2 rfl; exact (fld_cells H).2.ne h.symm)
  refine ⟨fun k => k = f ∨ k = og ∨ (Value.slice A1 n1 c1).ownBlock = some k, { hb := hbf, vO := hvO2, vL := hvL2, hn := H.hn, hi := ?_, oS := ?_, lS := fun _ h => .inr (.inr h), new := H.new, lNew := hnw, own := .inl rfl, ty := ?_, tabS := ?_, tabT := Nat.lt_of_lt_of_le H.tabT hm.size }, (Mod.below hb).trans hm (fun _ _ h => h), ?_⟩
  · intro j row s hj hs
    obtain ⟨e1, e2, e3, e4⟩ := H.hi j row s hj hs
    have hno : ∀ ad, s.1 = some ad → 0 < row.length → ¬ (lv.v.ownBlock = some ad.block ∨ ad.block = og) := by
      rintro ad a b (h | h)
      · exact (e4 ad a b).1 (H.lS _ h)
      · exact (e4 ad a b).1 (h ▸ hSo)
    refine ⟨e1, e2, rn_C e3 hm2 hno, fun ad a b => ⟨?_, (e4 ad a b).2.mod hm2 (hno ad a b)⟩⟩
    rintro (h | h | h)
    · exact (e4 ad a b).1 (h ▸ H.own)
    · exact (e4 ad a b).1 (h ▸ hSo)
    · exact (e4 ad a b).1 (hlt _ h (e4 ad a b).2.lt)
  · intro k hk
    simp only [Value.ownBlock, Option.some.injEq] at hk
    exact .inr (.inl hk.symm)
  · rintro k (rfl | rfl | h)
    · exact .inl (blk_ty hbf)
    · exact .inr (.inl (own_ty hvO2 rfl))
    · exact .inr (.inr (own_ty hvL2 h))
  · rintro (h | h | h)
    · exact H.tabS (h ▸ H.own)
    · exact H.tabS (h ▸ hSo)
    · exact H.tabS (hlt _ h H.tabT)
  · rintro k hk (rfl | rfl | h)
    · exact H.own
    · exact hSo
    · exact hlt k h (Nat.lt_of_lt_of_le hk hb.size)
end

set_option maxHeartbeats 1600000 in
set_option maxRecDepth 100000 in
theorem put_walk (S : Nat → Prop) (f g : Nat) (deep : Int) (x x' : FT) (r : Rn) (w : World) (H : FldAt S w f g deep x) (h : putP x r = some x') :
    Calls Tryd.prog 24 #[.pointer (some ⟨f, 0, none⟩), .agg #[.string r.t, .bool r.q, .bool r.s]] w fun en w' => en = .returned (.tuple #[]) ∧ FldPost S w f g deep x' w' := by
  unfold putP at h
  split at h
  · rename_i hlen
    cases h
    obtain ⟨ov, lv, vs, H⟩ := H
    obtain ⟨og, oc, rfl⟩ := fld_form H
    generalize hvn : vs.length = n at H
    obtain ⟨-, c0, c1, c2, f1, cl, fl, ft, ot, ne⟩ := fld_cells H
    have hmx : n + 1 ≤ 9223372036854775807 := by have := own_max H.vO; simp at this; omega
    have HH := Lib.hid H
    have HL := Lib.hid hlen
    clear H hlen hvn
    obtain ⟨rt, rq, rs⟩ := r
    have hi1 : ((n : Nat) : Int) < (n : Int) + 1 := by omega
    go_enter Tryd.func24, Tryd.ntmps24
    go_wp2
    go_region_law (first
      | (refine ap_rn_step rfl (.tmp 22) (.tmp 24) rfl lv.v x.last ⟨rt, rq, rs⟩ (w.heap.size + 1) rfl rfl (HH.out.below (by first | exact below_aad _ _ _ | exact below_aa _ _ _)).vL (by simp) (by simp) (by simp) HL.out ?_; intro A1 n1 c1 w1 hv hg hat; have HP := Lib.hid (fld_put HH.out (by first | exact below_aad _ _ _ | exact below_aa _ _ _) hg hv hat)
         obtain ⟨d0, d1, d2, e1, dl, el, et, eo, _⟩ := fld_grown (HH.out.below (by first | exact below_aad _ _ _ | exact below_aa _ _ _)) hg; clear hv hg hat))
    all_goals
      go_wp2
      go_end0
      obtain ⟨S', h1, h2, h3⟩ := HP.out
      exact ⟨rfl, S', h1.at_, h2, h3⟩
  · cases h

end Go.Proofs.YthbnnlhkcaomlaaDoor.Ex
