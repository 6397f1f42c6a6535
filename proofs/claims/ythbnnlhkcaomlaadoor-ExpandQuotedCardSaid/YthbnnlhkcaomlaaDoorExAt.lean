/- The environment and the fields as they lie in memory. -/
import Derived.Test.YthbnnlhkcaomlaaDoorExMem
import Derived.Test.YthbnnlhkcaomlaaDoorExPure
import Derived.Test.YthbnnlhkcaomlaaDoorShelf
import Derived.Lib.LaidTab
namespace Go.Proofs.YthbnnlhkcaomlaaDoor.Ex
open Go.RowKit Go.Shelf Go.Proofs.YthbnnlhkcaomlaaDoorW.PrintWords Go.Proofs.YthbnnlhkcaomlaaDoor.Gl

def kVar : Kd (B × B) := Kd.pair Kd.string Kd.string
theorem kVar_K {w : World} {x : B × B} {cs : List Value} (h : kVar.K w x cs) : cs = [.string x.1, .string x.2] := by
  obtain ⟨_, _, rfl, rfl, rfl⟩ := h
  exact rfl
theorem kVar_M (w : World) (base : Nat) (ok : Nat → Prop) (x : B × B) : kVar.M w base ok x [.string x.1, .string x.2] := ⟨[.string x.1], [.string x.2], rfl, rfl, rfl⟩
def kRn : Kd Rn := Kd.iso (Kd.pair Kd.string (Kd.pair Kd.bool Kd.bool)) (fun x : Rn => (x.t, x.q, x.s))
theorem kRn_K {w : World} {x : Rn} {cs : List Value} (h : kRn.K w x cs) : cs = [.string x.t, .bool x.q, .bool x.s] := by
  obtain ⟨_, _, rfl, rfl, ⟨_, _, rfl, rfl, rfl⟩⟩ := h
  exact rfl
theorem kRn_mk (w : World) (x : Rn) : kRn.K w x [.string x.t, .bool x.q, .bool x.s] := ⟨[.string x.t], [.bool x.q, .bool x.s], rfl, rfl, ⟨[.bool x.q], [.bool x.s], rfl, rfl, rfl⟩⟩
theorem kRn_M (w : World) (base : Nat) (ok : Nat → Prop) (x : Rn) : kRn.M w base ok x [.string x.t, .bool x.q, .bool x.s] := ⟨[.string x.t], [.bool x.q, .bool x.s], rfl, rfl, ⟨[.bool x.q], [.bool x.s], rfl, rfl, rfl⟩⟩
/-- A slice's three numbers. -/
abbrev Sl := Option Addr × Nat × Nat
def Sl.v (s : Sl) : Value := .slice s.1 s.2.1 s.2.2
def kSl : Kd Sl := Kd.scalar Sl.v (fun _ => rfl)
def yes : Nat → Prop := fun _ => True

/-- A row of one's own, of cells that lead nowhere. -/
abbrev Own {α : Type} (d : Kd α) (e : Nat) (w : World) (v : Value) (xs : List α) : Prop := d.R e w 0 yes v xs

theorem own_keep {α : Type} {d : Kd α} {e : Nat} {S : Nat → Prop} {w w' : World} {v : Value} {xs : List α} (hd : ∀ w w' x cs, d.M w 0 (fun k => yes k ∧ some k ≠ v.ownBlock) x cs → d.M w' 0 (fun k => yes k ∧ some k ≠ v.ownBlock) x cs) (h : Own d e w v xs) (hm : Mod S w w') (hv : ∀ k, v.ownBlock = some k → ¬ S k) : Own d e w' v xs :=
  ⟨h.1, OwnRow.mod h.2 hm hv (fun _ _ _ hp => hd _ _ _ _ hp)⟩
theorem own_ty {α : Type} {d : Kd α} {e : Nat} {w : World} {v : Value} {xs : List α} (h : Own d e w v xs) {k : Nat} (hk : v.ownBlock = some k) : Ty w k e := OwnRow.ty h.2 hk
theorem var_flat : ∀ (b : Nat → Prop) (w w' : World) x cs, kVar.M w 0 b x cs → kVar.M w' 0 b x cs := fun _ _ _ _ _ h => h
theorem str_flat : ∀ (b : Nat → Prop) (w w' : World) x cs, Kd.string.M w 0 b x cs → Kd.string.M w' 0 b x cs := fun _ _ _ _ _ h => h
theorem rn_flat : ∀ (b : Nat → Prop) (w w' : World) x cs, kRn.M w 0 b x cs → kRn.M w' 0 b x cs := fun _ _ _ _ _ h => h
theorem sl_flat : ∀ (b : Nat → Prop) (w w' : World) x cs, kSl.M w 0 b x cs → kSl.M w' 0 b x cs := fun _ _ _ _ _ h => h
theorem str_C {S : Nat → Prop} {w w' : World} {A : Option Addr} {n : Nat} {xs : List B} (h : Kd.string.C w A n xs) (hm : Mod S w w') (hA : ∀ ad, A = some ad → 0 < n → ¬ S ad.block) : Kd.string.C w' A n xs := ReadsRow.mod h hm hA (fun _ _ _ hp => hp)
theorem rn_C {S : Nat → Prop} {w w' : World} {A : Option Addr} {n : Nat} {xs : List Rn} (h : kRn.C w A n xs) (hm : Mod S w w') (hA : ∀ ad, A = some ad → 0 < n → ¬ S ad.block) : kRn.C w' A n xs := ReadsRow.mod h hm hA (fun _ _ _ hp => hp)

/-! ### the environment -/
def tabName : String := "internal/strconv.uint64pow10"
def TabOk (w : World) : Prop := Lib.TabIs Tryd.prog w tabName .u64 Lib.pow10Tab
/-- The variables' row: its own; or only read, and full. -/
def RowL (E : Nat → Prop) (w : World) (lv : Value) (L : List (B × B)) : Prop :=
  (Own kVar 44 w lv L ∧ ∀ k, lv.ownBlock = some k → E k) ∨
    ∃ b, lv = .slice (some ⟨b, 0, none⟩) L.length L.length ∧ kVar.C w (some ⟨b, 0, none⟩) L.length L ∧ ¬ E b ∧ Ty w b 44
theorem RowL.ty {E : Nat → Prop} {w : World} {lv : Value} {L : List (B × B)} (h : RowL E w lv L) {k : Nat} (hk : lv.ownBlock = some k) : Ty w k 44 := by
  rcases h with h | ⟨b, rfl, _, _, h⟩
  · exact own_ty h.1 hk
  · simp only [Value.ownBlock, Option.some.injEq] at hk
    exact hk ▸ h
theorem RowL.reads {E : Nat → Prop} {w : World} {lv : Value} {L : List (B × B)} (h : RowL E w lv L) : ∃ A c, lv = .slice A L.length c ∧ kVar.C w A L.length L := by
  rcases h with h | ⟨b, rfl, h, _⟩
  · obtain ⟨A, c, e, _, hC⟩ := Kd.R_reads h.1
    exact ⟨A, c, e, hC⟩
  · exact ⟨_, _, rfl, h⟩
theorem RowL.mod {E E' S : Nat → Prop} {w w' : World} {lv : Value} {L : List (B × B)} (h : RowL E w lv L) (hm : Mod S w w') (hS : ∀ k, lv.ownBlock = some k → ¬ S k) (hE : ∀ k, lv.ownBlock = some k → (E k ↔ E' k)) : RowL E' w' lv L := by
  rcases h with h | ⟨b, rfl, h1, h2, h3⟩
  · exact .inl ⟨own_keep (fun _ _ _ _ h => h) h.1 hm hS, fun k hk => (hE k hk).1 (h.2 k hk)⟩
  · have hb : ¬ S b := hS b (by simp [Value.ownBlock])
    exact .inr ⟨b, rfl, ReadsRow.mod h1 hm (fun ad e _ => by cases e; exact hb) (fun _ _ _ hp => hp), fun he => h2 ((hE b (by simp [Value.ownBlock])).2 he), h3.mod hm hb⟩
/-- The environment at block g, its cells opened; E: the blocks that its methods may write. -/
structure EnvIn (E : Nat → Prop) (w : World) (g : Nat) (e : EnvT) (lv : Value) (A : Option Addr) (c : Nat) (sv : Value) : Prop where
  hb : w.heap[g]? = some (.cells #[lv, .slice A e.args.length c, .int .i64 e.status, sv] 31 (0, 0))
  rL : RowL E w lv e.L
  vS : Own Kd.string 9 w sv e.seen
  hA : Kd.string.C w A e.args.length e.args
  hc : e.args.length ≤ c
  hE : ∀ ad, A = some ad → 0 < e.args.length → ¬ E ad.block ∧ Ty w ad.block 9
  sE : ∀ k, sv.ownBlock = some k → E k
  own : E g
  ty : ∀ k, E k → Ty w k 31 ∨ Ty w k 44 ∨ Ty w k 9
  tab : TabOk w
  tabE : ¬ E 0
  stat : -9223372036854775808 ≤ e.status ∧ e.status ≤ 9223372036854775807
  len : e.args.length < big
def EnvAt (E : Nat → Prop) (w : World) (g : Nat) (e : EnvT) : Prop := ∃ lv A c sv, EnvIn E w g e lv A c sv

/-- The blocks that fields write. -/
def FTy (w : World) (S : Nat → Prop) : Prop := ∀ k, S k → Ty w k 69 ∨ Ty w k 38 ∨ Ty w k 40

theorem tab_mod {S : Nat → Prop} {w w' : World} (h : TabOk w) (hm : Mod S w w') (hS : ¬ S 0) : TabOk w' := by
  unfold TabOk Lib.TabIs World.var? at h ⊢
  have hg : Tryd.prog.globalNamed tabName = some 0 := by kernel_rfl
  rw [hg] at h ⊢
  simp only [Option.bind_some] at h ⊢
  cases hh : w.heap[0]? with
  | none => rw [hh] at h; cases h
  | some o => rw [hm.obj hh hS]; rw [hh] at h; exact h
theorem not_var {S : Nat → Prop} {w : World} {k : Nat} (h : S k) (hS : ∀ k, S k → Ty w k 69 ∨ Ty w k 38 ∨ Ty w k 40) {E : Nat → Prop} (hE : ∀ k, E k → Ty w k 31 ∨ Ty w k 44 ∨ Ty w k 9) : ¬ E k := by
  intro he
  rcases hS k h with h1 | h1 | h1 <;> rcases hE k he with h2 | h2 | h2 <;> exact (h1.ne h2 (by decide)) rfl
theorem not_str {S : Nat → Prop} {w : World} {k : Nat} (h : S k) (hS : FTy w S) {t : TypeId} (ht : t ≠ 69 ∧ t ≠ 38 ∧ t ≠ 40) : ¬ Ty w k t := by
  intro he
  rcases hS k h with h1 | h1 | h1
  · exact (h1.ne he ht.1.symm) rfl
  · exact (h1.ne he ht.2.1.symm) rfl
  · exact (h1.ne he ht.2.2.symm) rfl

/-- Where none of its blocks was written it is as it was. -/
theorem EnvIn.mod {E S : Nat → Prop} {w w' : World} {g : Nat} {e : EnvT} {lv : Value} {A : Option Addr} {c : Nat} {sv : Value} (h : EnvIn E w g e lv A c sv) (hm : Mod S w w') (hS : ∀ k, S k → ¬ E k) (hA : ∀ ad, A = some ad → 0 < e.args.length → ¬ S ad.block)
    (hL : ∀ k, S k → ¬ Ty w k 44) (hT : ¬ S 0) : EnvIn E w' g e lv A c sv where
  hb := hm.obj h.hb (fun k => hS _ k h.own)
  rL := h.rL.mod hm (fun k hk hs => hL k hs (h.rL.ty hk)) (fun _ _ => Iff.rfl)
  vS := own_keep (fun _ _ _ _ h => h) h.vS hm (fun k hk hs => hS _ hs (h.sE k hk))
  hA := str_C h.hA hm hA
  hc := h.hc
  hE := fun ad e1 e2 => ⟨(h.hE ad e1 e2).1, (h.hE ad e1 e2).2.mod hm (hA ad e1 e2)⟩
  sE := h.sE
  own := h.own
  ty := fun k hk => by
    rcases h.ty k hk with h | h | h
    · exact .inl (h.mod hm (fun hs => hS _ hs hk))
    · exact .inr (.inl (h.mod hm (fun hs => hS _ hs hk)))
    · exact .inr (.inr (h.mod hm (fun hs => hS _ hs hk)))
  tab := tab_mod h.tab hm hT
  tabE := h.tabE
  stat := h.stat
  len := h.len
/-- A world in which only blocks of fields have been written. -/
theorem EnvIn.fields {E S : Nat → Prop} {w w' : World} {g : Nat} {e : EnvT} {lv : Value} {A : Option Addr} {c : Nat} {sv : Value} (h : EnvIn E w g e lv A c sv) (hm : Mod S w w') (hS : FTy w S) (hT : ¬ S 0) : EnvIn E w' g e lv A c sv :=
  h.mod hm (fun _ hk => not_var hk hS h.ty) (fun ad e1 e2 hs => not_str hs hS (t := 9) ⟨by decide, by decide, by decide⟩ (h.hE ad e1 e2).2) (fun k hs => not_str hs hS (t := 44) ⟨by decide, by decide, by decide⟩) hT
theorem EnvAt.fields {E S : Nat → Prop} {w w' : World} {g : Nat} {e : EnvT} (h : EnvAt E w g e) (hm : Mod S w w') (hS : FTy w S) (hT : ¬ S 0) : EnvAt E w' g e := by
  obtain ⟨lv, A, c, sv, h⟩ := h
  exact ⟨lv, A, c, sv, h.fields hm hS hT⟩
theorem EnvAt.below {E : Nat → Prop} {w w' : World} {g : Nat} {e : EnvT} (h : EnvAt E w g e) (hb : Below w.heap.size w w') : EnvAt E w' g e := by
  obtain ⟨lv, A, c, sv, h⟩ := h
  exact ⟨lv, A, c, sv, h.mod (S := fun _ => False) (Mod.below hb) (fun _ e => e.elim) (fun _ _ _ e => e) (fun _ e => e.elim) (fun e => e)⟩

/-- Behind a call of the environment's. -/
def EnvPost (E : Nat → Prop) (w : World) (g : Nat) (e' : EnvT) (w' : World) : Prop := ∃ E', EnvAt E' w' g e' ∧ Mod E w w' ∧ ∀ k, k < w.heap.size → E' k → E k

/-! ### the fields -/
structure FldIn (S : Nat → Prop) (w : World) (f g : Nat) (deep : Int) (x : FT) (ov : Value) (lv : Sl) (vs : List Sl) : Prop where
  hb : w.heap[f]? = some (.cells #[.iface 28 (.pointer (some ⟨g, 0, none⟩)), ov, .int .i64 deep] 69 (0, 0))
  vO : Own kSl 38 w ov (vs ++ [lv])
  vL : Own kRn 40 w lv.v x.last
  hn : vs.length = x.init.length
  hi : ∀ (j : Nat) row s, x.init[j]? = some row → vs[j]? = some s → s.2.1 = row.length ∧ row.length ≤ s.2.2 ∧ kRn.C w s.1 row.length row ∧ ∀ ad, s.1 = some ad → 0 < row.length → ¬ S ad.block ∧ Ty w ad.block 40
  oS : ∀ k, ov.ownBlock = some k → S k
  lS : ∀ k, lv.v.ownBlock = some k → S k
  new : ∀ s, s ∈ vs → ∀ ad : Addr, s.1 = some ad → f < ad.block
  lNew : ∀ k, lv.v.ownBlock = some k → f < k
  own : S f
  ty : FTy w S
  tabS : ¬ S 0
  tabT : 0 < w.heap.size
def FldAt (S : Nat → Prop) (w : World) (f g : Nat) (deep : Int) (x : FT) : Prop := ∃ ov lv vs, FldIn S w f g deep x ov lv vs

theorem FldIn.mod {S E : Nat → Prop} {w w' : World} {f g : Nat} {deep : Int} {x : FT} {ov : Value} {lv : Sl} {vs : List Sl} (h : FldIn S w f g deep x ov lv vs) (hm : Mod E w w') (hE : ∀ k, E k → ¬ S k ∧ ¬ Ty w k 40) : FldIn S w' f g deep x ov lv vs where
  hb := hm.obj h.hb (fun k => (hE _ k).1 h.own)
  vO := own_keep (fun _ _ _ _ h => h) h.vO hm (fun k hk hs => (hE _ hs).1 (h.oS k hk))
  vL := own_keep (fun _ _ _ _ h => h) h.vL hm (fun k hk hs => (hE _ hs).1 (h.lS k hk))
  hn := h.hn
  hi := fun j row s hj hs => by
    obtain ⟨e1, e2, e3, e4⟩ := h.hi j row s hj hs
    exact ⟨e1, e2, rn_C e3 hm (fun ad a b hs => (hE _ hs).2 (e4 ad a b).2), fun ad a b => ⟨(e4 ad a b).1, (e4 ad a b).2.mod hm (fun hs => (hE _ hs).2 (e4 ad a b).2)⟩⟩
  oS := h.oS
  lS := h.lS
  new := h.new
  lNew := h.lNew
  own := h.own
  ty := fun k hk => by
    rcases h.ty k hk with h | h | h
    · exact .inl (h.mod hm (fun hs => (hE _ hs).1 hk))
    · exact .inr (.inl (h.mod hm (fun hs => (hE _ hs).1 hk)))
    · exact .inr (.inr (h.mod hm (fun hs => (hE _ hs).1 hk)))
  tabS := h.tabS
  tabT := Nat.lt_of_lt_of_le h.tabT hm.size
theorem FldAt.below {S : Nat → Prop} {w w' : World} {f g : Nat} {deep : Int} {x : FT} (h : FldAt S w f g deep x) (hb : Below w.heap.size w w') : FldAt S w' f g deep x := by
  obtain ⟨ov, lv, vs, h⟩ := h
  exact ⟨ov, lv, vs, h.mod (E := fun _ => False) (Mod.below hb) (fun _ e => e.elim)⟩
/-- A world in which only the environment's blocks have been written. -/
theorem FldAt.env {S E : Nat → Prop} {w w' : World} {f g : Nat} {deep : Int} {x : FT} (h : FldAt S w f g deep x) (hm : Mod E w w') (hE : ∀ k, E k → Ty w k 31 ∨ Ty w k 44 ∨ Ty w k 9) : FldAt S w' f g deep x := by
  obtain ⟨ov, lv, vs, h⟩ := h
  refine ⟨ov, lv, vs, h.mod hm fun k hk => ⟨fun hs => not_var hs h.ty hE hk, fun ht => ?_⟩⟩
  rcases hE k hk with h2 | h2 | h2 <;> exact (ht.ne h2 (by decide)) rfl

end Go.Proofs.YthbnnlhkcaomlaaDoor.Ex
