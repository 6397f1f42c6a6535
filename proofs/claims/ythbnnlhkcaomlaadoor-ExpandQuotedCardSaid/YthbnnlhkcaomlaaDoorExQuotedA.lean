/- The memory of ExpandQuoted: its word and its variables, both rows of its own; appends as steps of a drawn region. -/
import Derived.Test.YthbnnlhkcaomlaaDoorExQuotedP
namespace Go.Proofs.YthbnnlhkcaomlaaDoor.Ex
set_option linter.unusedVariables false
open Go.RowKit Go.Shelf Go.Proofs.YthbnnlhkcaomlaaDoorW.PrintWords Go.Proofs.YthbnnlhkcaomlaaDoor.Gl

theorem PartAt.imp {P P' : Nat → Prop} {w : World} (hP : ∀ k, P k → P' k) : ∀ (d : Nat) (p : PartT) (cs : List Value), PartAt d P w p cs → PartAt d P' w p cs
  | 0, _, _, h => h.elim
  | d + 1, p, cs, ⟨A, n, c, ba, e, hc, ⟨h1, h2, h3⟩, hb⟩ => ⟨A, n, c, ba, e, hc, ⟨h1, h2, fun hn => by
      obtain ⟨ad, ea, hp, hq⟩ := h3 hn
      refine ⟨ad, ea, hP _ hp, fun j q hj => ?_⟩
      obtain ⟨qs, hl, hpa, hcell⟩ := hq j q hj
      exact ⟨qs, hl, PartAt.imp hP d q qs hpa, hcell⟩⟩, by
      cases hbb : p.body with
      | none => rw [hbb] at hb; exact hb
      | some nb =>
        rw [hbb] at hb
        obtain ⟨ad, e1, h4, h5, h6⟩ := hb
        exact ⟨ad, e1, h4, h5, hP _ h6⟩⟩
theorem WordAt.imp {d : Nat} {P P' : Nat → Prop} {w : World} {A : Option Addr} {n : Nat} {ps : List PartT} (h : WordAt d P w A n ps) (hP : ∀ k, P k → P' k) : WordAt d P' w A n ps :=
  ⟨h.1, h.2.1, fun hn => by
    obtain ⟨ad, ea, hp, hq⟩ := h.2.2 hn
    refine ⟨ad, ea, hP _ hp, fun j q hj => ?_⟩
    obtain ⟨qs, hl, hpa, hcell⟩ := hq j q hj
    exact ⟨qs, hl, PartAt.imp hP d q qs hpa, hcell⟩⟩
/-- A part's six cells, as they lie. -/
abbrev PC := Int × B × B × Bool × Sl × Option Addr
def kPtr : Kd (Option Addr) := Kd.scalar Value.pointer (fun _ => rfl)
def kPt : Kd PC := Kd.pair (Kd.int .i64) (Kd.pair Kd.string (Kd.pair Kd.string (Kd.pair Kd.bool (Kd.pair kSl kPtr))))
def PC.cells (x : PC) : List Value := [.int .i64 x.1, .string x.2.1, .string x.2.2.1, .bool x.2.2.2.1, Sl.v x.2.2.2.2.1, .pointer x.2.2.2.2.2]
theorem kPt_K {w : World} {x : PC} {cs : List Value} (h : kPt.K w x cs) : cs = x.cells := by
  obtain ⟨_, _, rfl, rfl, ⟨_, _, rfl, rfl, ⟨_, _, rfl, rfl, ⟨_, _, rfl, rfl, ⟨_, _, rfl, rfl, rfl⟩⟩⟩⟩⟩ := h
  rfl
theorem kPt_M (w : World) (base : Nat) (ok : Nat → Prop) (x : PC) : kPt.M w base ok x x.cells :=
  ⟨[.int .i64 x.1], [.string x.2.1, .string x.2.2.1, .bool x.2.2.2.1, Sl.v x.2.2.2.2.1, .pointer x.2.2.2.2.2], rfl, rfl,
    ⟨[.string x.2.1], [.string x.2.2.1, .bool x.2.2.2.1, Sl.v x.2.2.2.2.1, .pointer x.2.2.2.2.2], rfl, rfl,
      ⟨[.string x.2.2.1], [.bool x.2.2.2.1, Sl.v x.2.2.2.2.1, .pointer x.2.2.2.2.2], rfl, rfl,
        ⟨[.bool x.2.2.2.1], [Sl.v x.2.2.2.2.1, .pointer x.2.2.2.2.2], rfl, rfl, ⟨[Sl.v x.2.2.2.2.1], [.pointer x.2.2.2.2.2], rfl, rfl, rfl⟩⟩⟩⟩⟩
theorem pt_flat : ∀ (b : Nat → Prop) (w w' : World) x cs, kPt.M w 0 b x cs → kPt.M w' 0 b x cs := fun _ _ _ _ _ h => h
theorem inPt : (Tryd.prog.info? 47).map (fun i => (i.zero, i.size, i.bytes)) = some (some (.agg #[.int .i64 0, .string ⟨#[]⟩, .string ⟨#[]⟩, .bool false, .slice none 0 0, .pointer none]), 6, 80) := by kernel_rfl

section
variable {ops : Array Oper} {o : Oper} {a : Act} {Q : Exit → Act → World → Prop} {Kc : Act → World → Prop} {W : World}
theorem ap_var_st (hw : Region.wanted o (yielded ops a.tmps) = true) (s x : Operand) (ho : o.op = .call { callee := .builtin .append, args := #[s, x], argTypes := #[23, 23] }) (v : Value) (xs : List (B × B)) (p : B × B) (hs : a.eval s = v) {N : Nat} (hx : a.eval x = .slice (some ⟨N, 0, none⟩) 1 1) (hN : N = W.heap.size)
    (HO : Own kVar 44 W v xs) (hl : xs.length < big)
    (h : ∀ A1 n1 c1 w1, Own kVar 44 w1 (.slice A1 n1 c1) (xs ++ [p]) → W.grownBy w1 v.ownBlock → ((Value.slice A1 n1 c1).ownBlock = v.ownBlock ∨ ∃ b, (Value.slice A1 n1 c1).ownBlock = some b ∧ W.heap.size ≤ b) → Kc (a.put o.dst (.slice A1 n1 c1)) w1) :
    if Region.wanted o (yielded ops a.tmps) = true then Oper.wp Tryd.prog o a (W.alloc (.cells #[.string p.1, .string p.2] 44)) Kc Q else Kc (a.put o.dst undef) (W.alloc (.cells #[.string p.1, .string p.2] 44)) :=
  Kd.R_append_step kVar (w0 := W) 0 hw s x 23 44 (.agg #[.string ⟨#[]⟩, .string ⟨#[]⟩]) 32 ho Tryd.underlying23 inVar rfl (by decide) (by decide) v xs p [.string p.1, .string p.2] yes (fun _ => False) hs (hN ▸ hx) (kVar_M _ _ _ _) (fun _ h => h.elim) (fun _ _ => trivial) HO (Below.refl _ _) (Nat.zero_le _)
    (by unfold big at hl; omega) (fun v1 w1 hr _ hg hat => by obtain ⟨A1, c1, rfl⟩ := Kd.R_slice hr; exact h A1 _ c1 w1 hr hg hat)
theorem ap_pt_st (hw : Region.wanted o (yielded ops a.tmps) = true) (s x : Operand) (ho : o.op = .call { callee := .builtin .append, args := #[s, x], argTypes := #[22, 22] }) (v : Value) (xs : List PC) (p : PC) (hs : a.eval s = v) {N : Nat} (hx : a.eval x = .slice (some ⟨N, 0, none⟩) 1 1) (hN : N = W.heap.size)
    (HO : Own kPt 47 W v xs) (hl : xs.length < big)
    (h : ∀ A1 n1 c1 w1, Own kPt 47 w1 (.slice A1 n1 c1) (xs ++ [p]) → W.grownBy w1 v.ownBlock → ((Value.slice A1 n1 c1).ownBlock = v.ownBlock ∨ ∃ b, (Value.slice A1 n1 c1).ownBlock = some b ∧ W.heap.size ≤ b) → Kc (a.put o.dst (.slice A1 n1 c1)) w1) :
    if Region.wanted o (yielded ops a.tmps) = true then Oper.wp Tryd.prog o a (W.alloc (.cells p.cells.toArray 47)) Kc Q else Kc (a.put o.dst undef) (W.alloc (.cells p.cells.toArray 47)) :=
  Kd.R_append_step kPt (w0 := W) 0 hw s x 22 47 (.agg #[.int .i64 0, .string ⟨#[]⟩, .string ⟨#[]⟩, .bool false, .slice none 0 0, .pointer none]) 80 ho Tryd.underlying22 inPt rfl (by decide) (by decide) v xs p p.cells yes (fun _ => False) hs (hN ▸ hx) (kPt_M _ _ _ _) (fun _ h => h.elim) (fun _ _ => trivial) HO (Below.refl _ _) (Nat.zero_le _)
    (by unfold big at hl; omega) (fun v1 w1 hr _ hg hat => by obtain ⟨A1, c1, rfl⟩ := Kd.R_slice hr; exact h A1 _ c1 w1 hr hg hat)
end

def itsL (its : List Itm) : List (B × B) := its.map fun x => (x.nm, x.v)
/-- The rows of a word that is gathered: w0 the world at the start; NB the variables' box. -/
structure QIn (w0 wr : World) (NB : Nat) (L : List (B × B)) (ps : List PartT) (lv wv : Value) (pcs : List PC) : Prop where
  hL : Own kVar 44 wr lv L
  hW : Own kPt 47 wr wv pcs
  len : pcs.length = ps.length
  parts : ∀ (j : Nat) p pc, ps[j]? = some p → pcs[j]? = some pc → PartAt 2 (fun k => Ty wr k 47 ∧ some k ≠ wv.ownBlock) wr p pc.cells
  box : wr.heap[NB]? = some (.cells #[lv, .slice none 0 0, .int .i64 0] 26 (0, 0))
  nb : w0.heap.size ≤ NB
  bel : Below w0.heap.size w0 wr
  lvB : ∀ b, lv.ownBlock = some b → w0.heap.size ≤ b
  wvB : ∀ b, wv.ownBlock = some b → w0.heap.size ≤ b
/-- Memory alone has been made. -/
theorem QIn.below {w0 wr w' : World} {NB : Nat} {L : List (B × B)} {ps : List PartT} {lv wv : Value} {pcs : List PC} (h : QIn w0 wr NB L ps lv wv pcs) (hb : Below wr.heap.size wr w') : QIn w0 w' NB L ps lv wv pcs where
  hL := own_keep (fun _ _ _ _ h => h) h.hL (S := fun _ => False) (Mod.below hb) (fun _ _ e => e)
  hW := own_keep (fun _ _ _ _ h => h) h.hW (S := fun _ => False) (Mod.below hb) (fun _ _ e => e)
  len := h.len
  parts := fun j p pc h1 h2 => PartAt.imp (fun _ hk => ⟨hk.1.mod (S := fun _ => False) (Mod.below hb) (fun e => e), hk.2⟩) 2 p _ (PartAt.mod (S := fun _ => False) (Mod.below hb) (fun _ _ e => e) 2 p _ (h.parts j p pc h1 h2))
  box := below_obj hb h.box
  nb := h.nb
  bel := h.bel.trans (hb.mono h.bel.size)
  lvB := h.lvB
  wvB := h.wvB
/-- A part has been appended. -/
theorem QIn.part {w0 W w1 : World} {NB : Nat} {L : List (B × B)} {ps : List PartT} {lv wv wv' : Value} {pcs : List PC} {p : PartT} {pc : PC} (h : QIn w0 W NB L ps lv wv pcs) (hp : PartAt 2 (fun k => Ty W k 47 ∧ some k ≠ wv.ownBlock) W p pc.cells)
    (hv : Own kPt 47 w1 wv' (pcs ++ [pc])) (hg : W.grownBy w1 wv.ownBlock) (hat : wv'.ownBlock = wv.ownBlock ∨ ∃ b, wv'.ownBlock = some b ∧ W.heap.size ≤ b) : QIn w0 w1 NB L (ps ++ [p]) lv wv' (pcs ++ [pc]) := by
  have hm : Mod (fun k => wv.ownBlock = some k) W w1 := (Mod.refl _ W).grown hg (fun _ hk _ => hk)
  have hP : ∀ q (qc : PC), PartAt 2 (fun k => Ty W k 47 ∧ some k ≠ wv.ownBlock) W q qc.cells → PartAt 2 (fun k => Ty w1 k 47 ∧ some k ≠ wv'.ownBlock) w1 q qc.cells := by
    intro q qc hq
    refine PartAt.imp (fun k hk => ⟨hk.1.mod hm (fun e => hk.2 e.symm), fun e => ?_⟩) 2 q _ (PartAt.mod hm (fun k hk e => hk.2 e.symm) 2 q _ hq)
    rcases hat with h1 | ⟨b, h1, h2⟩
    · exact hk.2 (e.trans h1)
    · rw [h1] at e
      have := hk.1.lt
      have := Option.some.inj e
      omega
  refine {
    hL := own_keep (fun _ _ _ _ h => h) h.hL hm (fun k hk e => (own_ty h.hL hk).ne (own_ty h.hW e) (by decide) rfl)
    hW := hv
    len := by rw [List.length_append, List.length_append, h.len]; rfl
    parts := fun j q qc h1 h2 => ?_
    box := hm.obj h.box (fun e => (own_ty h.hW e).ne (blk_ty h.box) (by decide) rfl)
    nb := h.nb
    bel := h.bel.trans (Mod.toBelow hm h.bel.size (fun i hi e => by have := h.wvB i e; omega))
    lvB := h.lvB
    wvB := fun b hb => by
      rcases hat with h1 | ⟨b', h1, h2⟩
      · exact h.wvB b (h1 ▸ hb)
      · rw [h1] at hb; cases hb; exact Nat.le_trans h.bel.size h2 }
  have hjl := (List.getElem?_eq_some_iff.1 h1).1
  rw [List.length_append, List.length_singleton] at hjl
  by_cases hj : j < ps.length
  · rw [List.getElem?_append_left hj] at h1
    rw [List.getElem?_append_left (by rw [h.len]; exact hj)] at h2
    exact hP q qc (h.parts j q qc h1 h2)
  · rw [List.getElem?_append_right (by omega), show j - ps.length = 0 from by omega] at h1
    rw [List.getElem?_append_right (by rw [h.len]; omega), show j - pcs.length = 0 from by rw [h.len]; omega] at h2
    cases h1
    cases h2
    exact hP _ _ hp
/-- A variable has been appended, and stored into the box. -/
theorem QIn.var {w0 W w1 : World} {NB : Nat} {L : List (B × B)} {ps : List PartT} {lv wv lv' : Value} {pcs : List PC} {x : B × B} (h : QIn w0 W NB L ps lv wv pcs)
    (hv : Own kVar 44 w1 lv' (L ++ [x])) (hg : W.grownBy w1 lv.ownBlock) (hat : lv'.ownBlock = lv.ownBlock ∨ ∃ b, lv'.ownBlock = some b ∧ W.heap.size ≤ b) : QIn w0 (w1.setCell ⟨NB, 0, none⟩ lv') NB (L ++ [x]) ps lv' wv pcs := by
  have hm : Mod (fun k => lv.ownBlock = some k) W w1 := (Mod.refl _ W).grown hg (fun _ hk _ => hk)
  have hb1 := hm.obj h.box (fun e => (own_ty h.hL e).ne (blk_ty h.box) (by decide) rfl)
  have hg1 : Mod (fun k => k = NB) w1 (w1.setCell ⟨NB, 0, none⟩ lv') := (Mod.refl (fun k => k = NB) w1).setCell (p := ⟨NB, 0, none⟩) (fun _ => rfl) lv'
  have hm2 : Mod (fun k => lv.ownBlock = some k ∨ k = NB) W (w1.setCell ⟨NB, 0, none⟩ lv') := (hm.mono (fun _ _ h => .inl h)).trans hg1 (fun _ _ h => .inr h)
  have hnP : ∀ k, Ty W k 47 → ¬ (lv.ownBlock = some k ∨ k = NB) := by
    rintro k ht (e | rfl)
    · exact ht.ne (own_ty h.hL e) (by decide) rfl
    · exact ht.ne (blk_ty h.box) (by decide) rfl
  have hlN : ∀ k, lv'.ownBlock = some k → ¬ k = NB := by
    rintro k hk rfl
    exact (own_ty hv hk).ne (blk_ty hb1) (by decide) rfl
  exact {
    hL := own_keep (fun _ _ _ _ h => h) hv hg1 hlN
    hW := own_keep (fun _ _ _ _ h => h) h.hW hm2 (fun k hk e => hnP k (own_ty h.hW hk) e)
    len := h.len
    parts := fun j q qc h1 h2 => PartAt.imp (fun k hk => ⟨hk.1.mod hm2 (hnP k hk.1), hk.2⟩) 2 q _ (PartAt.mod hm2 (fun k hk => hnP k hk.1) 2 q _ (h.parts j q qc h1 h2))
    box := (blk_set hb1 0 lv').trans rfl
    nb := h.nb
    bel := h.bel.trans (Mod.toBelow hm2 h.bel.size (fun i hi e => by
      rcases e with e | e
      · have := h.lvB i e; omega
      · have := h.nb; omega))
    lvB := fun b hb => by
      rcases hat with h1 | ⟨b', h1, h2⟩
      · exact h.lvB b (h1 ▸ hb)
      · rw [h1] at hb; cases hb; exact Nat.le_trans h.bel.size h2
    wvB := h.wvB }
/-- The word, as it is read. -/
theorem QIn.word {w0 wr : World} {NB : Nat} {L : List (B × B)} {ps : List PartT} {lv wv : Value} {pcs : List PC} (h : QIn w0 wr NB L ps lv wv pcs) : ∃ A c, wv = .slice A ps.length c ∧ ps.length ≤ c ∧ WordAt 2 (fun k => Ty wr k 47) wr A ps.length ps := by
  obtain ⟨A, c, e, hc, hC⟩ := Kd.R_reads h.hW
  rw [h.len] at e hc
  refine ⟨A, c, e, hc, rfl, by have := hC.2.1; rw [h.len] at this; exact this, fun hn => ?_⟩
  obtain ⟨ad, ea, hcell⟩ := hC.2.2 (by rw [h.len]; exact hn)
  refine ⟨ad, ea, ?_, fun j q hj => ?_⟩
  · subst ea e
    exact own_ty h.hW rfl
  · have hjl : j < pcs.length := by rw [h.len]; exact (List.getElem?_eq_some_iff.1 hj).1
    obtain ⟨cs, h1, h2, h3⟩ := hcell j pcs[j] (List.getElem?_eq_getElem hjl)
    obtain rfl := kPt_K h2
    exact ⟨_, rfl, PartAt.imp (P := fun k => Ty wr k 47 ∧ some k ≠ wv.ownBlock) (fun _ hk => hk.1) 2 q _ (by
      have := h.parts j q pcs[j] hj (List.getElem?_eq_getElem hjl)
      exact this), h3⟩
/-- The environment over it: a new box that holds the same variables. -/
theorem QIn.env {w0 wr W : World} {NB g : Nat} {L : List (B × B)} {ps : List PartT} {lv wv : Value} {pcs : List PC} (h : QIn w0 wr NB L ps lv wv pcs) (hb : Below wr.heap.size wr W) (hg : wr.heap.size ≤ g) (ho : W.heap[g]? = some (.cells #[lv, .slice none 0 0, .int .i64 0, .slice none 0 0] 31 (0, 0))) (hT : TabOk wr) (hTv : ¬ lv.ownBlock = some 0) :
    EnvAt (fun k => k = g ∨ lv.ownBlock = some k) W g (qE L []) := by
  have h' := h.below hb
  refine ⟨lv, none, 0, .slice none 0 0, ?_⟩
  exact {
    hb := ho
    rL := .inl ⟨h'.hL, fun k hk => .inr hk⟩
    vS := Kd.R_nil _ _ _ _ _
    hA := ⟨rfl, Nat.zero_le _, fun h => absurd h (Nat.lt_irrefl _)⟩
    hc := Nat.le_refl _
    hE := fun ad e1 _ => by cases e1
    sE := fun k hk => by simp [Value.ownBlock] at hk
    own := .inl rfl
    ty := fun k hk => by
      rcases hk with rfl | hk
      · exact .inl ⟨_, _, ho⟩
      · exact .inr (.inl (own_ty h'.hL hk))
    tab := tab_mod hT (S := fun _ => False) (Mod.below hb) (fun e => e)
    tabE := fun e => by
      rcases e with e | e
      · have := tab_lt hT; omega
      · exact hTv e
    stat := by show (-9223372036854775808 : Int) ≤ 0 ∧ (0 : Int) ≤ 9223372036854775807; decide
    len := by show 0 < big; decide }

/-- Behind an append to the variables: the box, and what was there at the start. -/
theorem QIn.grown_cells {w0 W w1 : World} {NB : Nat} {L : List (B × B)} {ps : List PartT} {lv wv : Value} {pcs : List PC} (h : QIn w0 W NB L ps lv wv pcs) (hg : W.grownBy w1 lv.ownBlock) :
    w1.cell? ⟨NB, 0, none⟩ = some lv ∧ w1.frozen? ⟨NB, 0, none⟩ = false ∧ ∀ a u, w0.cell? a = some u → w1.cell? a = some u := by
  have hm : Mod (fun k => lv.ownBlock = some k) W w1 := (Mod.refl _ W).grown hg (fun _ hk _ => hk)
  have hb1 := hm.obj h.box (fun e => (own_ty h.hL e).ne (blk_ty h.box) (by decide) rfl)
  refine ⟨(blk_cell hb1 0).trans rfl, blk_frozen hb1 0, fun a u ha => hm.cell (pw_cell_below h.bel ha) (fun e => ?_)⟩
  have h1 := World.block_lt_of_cell? _ _ ha
  have h2 := h.lvB _ e
  omega
/-- Behind an append to the word. -/
theorem QIn.grown_word {w0 W w1 : World} {NB : Nat} {L : List (B × B)} {ps : List PartT} {lv wv : Value} {pcs : List PC} (h : QIn w0 W NB L ps lv wv pcs) (hg : W.grownBy w1 wv.ownBlock) : ∀ a u, w0.cell? a = some u → w1.cell? a = some u := by
  intro a u ha
  have hm : Mod (fun k => wv.ownBlock = some k) W w1 := (Mod.refl _ W).grown hg (fun _ hk _ => hk)
  refine hm.cell (pw_cell_below h.bel ha) (fun e => ?_)
  have h1 := World.block_lt_of_cell? _ _ ha
  have h2 := h.wvB _ e
  omega

end Go.Proofs.YthbnnlhkcaomlaaDoor.Ex
