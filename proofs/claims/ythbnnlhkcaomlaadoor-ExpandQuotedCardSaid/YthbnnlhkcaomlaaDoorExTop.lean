/- Several texts in one. -/
import Derived.Test.YthbnnlhkcaomlaaDoorExParamM
import Derived.Laws.EntriesVeiled
import Derived.Deep.DeepCutAuto
import Derived.Test.YthbnnlhkcaomlaaDoorWFour
import Derived.Laws.Rows
import Derived.Laws.IdiomStrings
import Derived.Test.YthbnnlhkcaomlaaDoorRows
import Derived.WalkKit
import Derived.ProofKit
import Derived.OpenShut
import Derived.ChangeOld
import Derived.Below
import Derived.SizedLaws
import Derived.LaidMore
import Derived.Stop.Joined
/- The walk of slices.Clip. -/
namespace Go.Proofs.YthbnnlhkcaomlaaDoor.Ex
open Go.RowKit Go.Shelf Go.Proofs.YthbnnlhkcaomlaaDoorW.PrintWords Go.Proofs.YthbnnlhkcaomlaaDoor.Gl

set_option maxHeartbeats 800000 in
set_option maxRecDepth 100000 in
theorem clip_walk (og n c : Nat) (w : World) (hc : n ≤ c) : Calls Tryd.prog 23 #[.slice (some ⟨og, 0, none⟩) n c] w fun en w' => en = .returned (.slice (some ⟨og, 0, none⟩) n n) ∧ w' = w := by
  have h0 : (0 : Int) ≤ (n : Int) := by omega
  have h1 : (n : Int) ≤ (c : Int) := by omega
  go_enter Tryd.func23, Tryd.ntmps23
  go_wp2
  go_ret
  exact ⟨rfl, rfl⟩

end Go.Proofs.YthbnnlhkcaomlaaDoor.Ex

/- What expand computes; its box of fields at the start. -/
namespace Go.Proofs.YthbnnlhkcaomlaaDoor.Ex
open Go.RowKit Go.Shelf Go.Proofs.YthbnnlhkcaomlaaDoorW.PrintWords Go.Proofs.YthbnnlhkcaomlaaDoor.Gl

def partP (W : List PartT → EnvT → Option Ans) (deep : Int) (p : PartT) (y : FT) (e : EnvT) : Option Res :=
  if p.kind = 0 then litP deep p y e else if p.kind = 1 then quotedP p y e else if p.kind = 2 then paramP W p y e else substP p y e
def loopP (W : List PartT → EnvT → Option Ans) (deep : Int) : List PartT → FT → EnvT → Option Ans
  | [], y, e => some (y.rows, 0, e)
  | p :: rest, y, e => if p.kind < 0 ∨ 3 < p.kind then some ([], 2, e)
    else (partP W deep p y e).bind fun r => if r.1 ≠ 0 then some ([], r.1, r.2.2) else loopP W deep rest r.2.1 r.2.2
/-- So many levels left (deep is 21 less those). -/
def expandP : Nat → Int → List PartT → EnvT → Option Ans
  | 0, _, _, e => some ([], 3, e)
  | k + 1, deep, word, e => loopP (expandP k (deep + 1)) deep word ⟨[], []⟩ e

theorem fld_new {W : World} {og f g : Nat} {deep : Int} (ho : W.heap[og]? = some (.cells #[.slice none 0 0] 38 (0, 0)))
    (hf : W.heap[f]? = some (.cells #[.iface 28 (.pointer (some ⟨g, 0, none⟩)), .slice (some ⟨og, 0, none⟩) 1 1, .int .i64 deep] 69 (0, 0)))
    (ht : 0 < W.heap.size) (h1 : ¬ 0 = og) (h2 : ¬ 0 = f) : FldAt (fun k => k = og ∨ k = f) W f g deep ⟨[], []⟩ := by
  refine ⟨.slice (some ⟨og, 0, none⟩) 1 1, (none, 0, 0), [], ?_⟩
  exact {
    hb := hf
    vO := Kd.R_of_own (enc := Sl.v) (h1 := fun _ => rfl) ⟨rfl, .inr ⟨og, 1, #[.slice none 0 0], rfl, Nat.zero_le _, ho, Nat.le_refl _, by unfold maxLen; omega, rfl, rfl⟩⟩ (fun _ _ => trivial)
    vL := Kd.R_nil _ _ _ _ _
    hn := rfl
    hi := fun j row s h => by simp at h
    oS := fun k hk => by simp [Value.ownBlock] at hk; exact .inl hk.symm
    lS := fun k hk => by simp [Sl.v, Value.ownBlock] at hk
    new := fun s h => by simp at h
    lNew := fun k hk => by simp [Sl.v, Value.ownBlock] at hk
    own := .inr rfl
    ty := fun k hk => hk.elim (fun e => .inr (.inl ⟨_, _, e ▸ ho⟩)) (fun e => .inl ⟨_, _, e ▸ hf⟩)
    tabS := fun h => h.elim h1 h2
    tabT := ht }

/-- The four methods of a part, where they stand. -/
def fourV (f : Nat) : Array Value := #[.func (.func 19) #[.pointer (some ⟨f, 0, none⟩)] #[], .func (.func 20) #[.pointer (some ⟨f, 0, none⟩)] #[], .func (.func 21) #[.pointer (some ⟨f, 0, none⟩)] #[], .func (.func 22) #[.pointer (some ⟨f, 0, none⟩)] #[]]
/-- Before the k-th part. -/
structure LoopIn (W : List PartT → EnvT → Option Ans) (deep : Int) (d : Nat) (E P : Nat → Prop) (w : World) (g : Nat) (word : List PartT) (a : Ans) (A : Option Addr) (n : Nat) (k : Nat) (wr : World) (y : FT) (e : EnvT) (S' E' : Nat → Prop) : Prop where
  fld : FldAt S' wr (w.heap.size + 1) g deep y
  env : EnvAt E' wr g e
  wd : WordAt d P wr A n word
  comes : loopP W deep (word.drop k) y e = some a
  four : wr.heap[w.heap.size + 1 + 1]? = some (.cells (fourV (w.heap.size + 1)) 71 (0, 0))
  mod : Mod E w wr
  eOld : ∀ k, k < w.heap.size → E' k → E k
  sNew : ∀ k, S' k → w.heap.size ≤ k
def LoopAt (W : List PartT → EnvT → Option Ans) (deep : Int) (d : Nat) (E P : Nat → Prop) (w : World) (g : Nat) (word : List PartT) (a : Ans) (A : Option Addr) (n : Nat) (k : Nat) (wr : World) : Prop :=
  ∃ y e S' E', LoopIn W deep d E P w g word a A n k wr y e S' E'
theorem LoopIn.next {W : List PartT → EnvT → Option Ans} {deep : Int} {d : Nat} {E P : Nat → Prop} {w : World} {g : Nat} {word : List PartT} {a a2 : Ans} {A : Option Addr} {n k j : Nat} {wr Wb w2 : World} {y y2 : FT} {e e2 : EnvT} {S' E' : Nat → Prop} (h : LoopIn W deep d E P w g word a A n k wr y e S' E') (hP : ∀ k, P k → ¬ E k ∧ k < w.heap.size) (hb : Below wr.heap.size wr Wb) (hm : MPost S' E' Wb (w.heap.size + 1) g deep y2 e2 w2) (hc : loopP W deep (word.drop j) y2 e2 = some a2) :
    ∃ S2 E2, LoopIn W deep d E P w g word a2 A n j w2 y2 e2 S2 E2 := by
  obtain ⟨S2, E2, h1, h2, h3, h4, h5⟩ := hm
  have hPE : ∀ k, P k → ¬ (S' k ∨ E' k) := fun k hk hs => hs.elim (fun hs => Nat.lt_irrefl _ (Nat.lt_of_lt_of_le (hP k hk).2 (h.sNew k hs))) (fun he => (hP k hk).1 (h.eOld k (hP k hk).2 he))
  have hsz : w.heap.size ≤ Wb.heap.size := Nat.le_trans h.mod.size hb.size
  refine ⟨S2, E2, ⟨h1, h2, (h.wd.below hb).mod h3 hPE, hc, ?_, ?_, ?_, ?_⟩⟩
  · refine h3.obj (below_obj hb h.four) ?_
    have ht : Ty wr (w.heap.size + 1 + 1) 71 := ⟨_, _, h.four⟩
    rintro (hs | he)
    · obtain ⟨_, _, _, hf⟩ := h.fld
      rcases hf.ty _ hs with h6 | h6 | h6 <;> exact (ht.ne h6 (by decide)) rfl
    · obtain ⟨_, _, _, _, hv⟩ := h.env
      rcases hv.ty _ he with h6 | h6 | h6 <;> exact (ht.ne h6 (by decide)) rfl
  · exact (h.mod.trans (S' := fun _ => False) (Mod.below hb) (fun _ _ e => e.elim)).trans h3 (fun i hi hs => hs.elim (fun hs => absurd (h.sNew i hs) (Nat.not_le.2 hi)) (fun he => h.eOld i hi he))
  · exact fun k hk he => h.eOld k hk (h5 k (Nat.lt_of_lt_of_le hk hsz) he)
  · intro k hk
    rcases Nat.lt_or_ge k Wb.heap.size with hlt | hge
    · exact h.sNew k (h4 k hlt hk)
    · exact Nat.le_trans hsz hge
theorem four_not {W : List PartT → EnvT → Option Ans} {deep : Int} {d : Nat} {E P : Nat → Prop} {w : World} {g : Nat} {word : List PartT} {a : Ans} {A : Option Addr} {n k : Nat} {wr : World} {y : FT} {e : EnvT} {S' E' : Nat → Prop} (h : LoopIn W deep d E P w g word a A n k wr y e S' E') : ¬ (S' (w.heap.size + 1 + 1) ∨ E' (w.heap.size + 1 + 1)) := by
  have ht : Ty wr (w.heap.size + 1 + 1) 71 := ⟨_, _, h.four⟩
  rintro (hs | he)
  · obtain ⟨_, _, _, hf⟩ := h.fld
    rcases hf.ty _ hs with h6 | h6 | h6 <;> exact (ht.ne h6 (by decide)) rfl
  · obtain ⟨_, _, _, _, hv⟩ := h.env
    rcases hv.ty _ he with h6 | h6 | h6 <;> exact (ht.ne h6 (by decide)) rfl
/-- An error: no rows. -/
theorem LoopIn.err {W : List PartT → EnvT → Option Ans} {deep : Int} {d : Nat} {E P : Nat → Prop} {w : World} {g : Nat} {word : List PartT} {a a' : Ans} {A : Option Addr} {n k : Nat} {wr Wb : World} {y : FT} {e : EnvT} {S' E' : Nat → Prop} {r : Int} (h : LoopIn W deep d E P w g word a' A n k wr y e S' E') (hb : Below wr.heap.size wr Wb) (ha : a = ([], r, e)) :
    WPost E w g a (.returned (.tuple #[.slice none 0 0, .int .i64 r])) Wb := by
  subst ha
  exact ⟨none, 0, 0, E', rfl, ⟨rfl, by decide, fun h => absurd h (by decide)⟩, Nat.le_refl _, h.env.below hb, h.mod.trans (S' := fun _ => False) (Mod.below hb) (fun _ _ e => e.elim), h.eOld⟩
theorem LoopAt.start {W : List PartT → EnvT → Option Ans} {deep : Int} {d : Nat} {E P : Nat → Prop} {w : World} {g : Nat} {e : EnvT} {word : List PartT} {a : Ans} {A : Option Addr} {n : Nat} (HE : EnvAt E w g e) (hw : WordAt d P w A n word) (h : loopP W deep word ⟨[], []⟩ e = some a) (hT : 0 < w.heap.size) :
    LoopAt W deep d E P w g word a A n 0 (((w.alloc (.cells #[.slice none 0 0] 38)).alloc (.cells #[.iface 28 (.pointer (some ⟨g, 0, none⟩)), .slice (some ⟨w.heap.size, 0, none⟩) 1 1, .int .i64 deep] 69)).alloc (.cells (fourV (w.heap.size + 1)) 71)) := by
  have hb := below_3 w (.cells #[.slice none 0 0] 38) (.cells #[.iface 28 (.pointer (some ⟨g, 0, none⟩)), .slice (some ⟨w.heap.size, 0, none⟩) 1 1, .int .i64 deep] 69) (.cells (fourV (w.heap.size + 1)) 71)
  obtain ⟨y1, y3, y2⟩ := three_new w (.cells #[.slice none 0 0] 38) (.cells #[.iface 28 (.pointer (some ⟨g, 0, none⟩)), .slice (some ⟨w.heap.size, 0, none⟩) 1 1, .int .i64 deep] 69) (.cells (fourV (w.heap.size + 1)) 71)
  refine ⟨⟨[], []⟩, e, fun k => k = w.heap.size ∨ k = w.heap.size + 1, E, ⟨fld_new y1 y3 (Nat.lt_of_lt_of_le hT hb.size) (Nat.ne_of_lt hT) (Nat.ne_of_lt (Nat.lt_succ_of_lt hT)), HE.below hb, hw.below hb, h, y2, Mod.below hb, fun _ _ h => h, ?_⟩⟩
  rintro k (rfl | rfl) <;> omega
theorem env_tab {E : Nat → Prop} {w : World} {g : Nat} {e : EnvT} (h : EnvAt E w g e) : 0 < w.heap.size := by
  have hT0 := h.tab
  unfold TabOk Lib.TabIs World.var? at hT0
  rw [show Tryd.prog.globalNamed tabName = some 0 from by kernel_rfl] at hT0
  simp only [Option.bind_some] at hT0
  cases hh : w.heap[0]? with
  | none => rw [hh] at hT0; cases hT0
  | some o => exact obj_lt hh

/-- A part of a word: its six cells, and what is in them. -/
theorem WordAt.at_ {d : Nat} {P : Nat → Prop} {w : World} {A : Option Addr} {n : Nat} {ps : List PartT} (h : WordAt d P w A n ps) {k : Nat} {q : PartT} (hq : ps[k]? = some q) :
    ∃ ad A' n' c' ba, A = some ad ∧ n' ≤ c' ∧ WordAt (d - 1) P w A' n' q.word ∧ BodyAt P w q.body (.pointer ba) ∧ w.cell? (ad.add (k * 6)) = some (.int .i64 q.kind) ∧ w.cell? ⟨(ad.add (k * 6)).block, (ad.add (k * 6)).off + 1, none⟩ = some (.string q.text) ∧ w.cell? ⟨(ad.add (k * 6)).block, (ad.add (k * 6)).off + 2, none⟩ = some (.string q.op) ∧ w.cell? ⟨(ad.add (k * 6)).block, (ad.add (k * 6)).off + 3, none⟩ = some (.bool q.quoted) ∧ w.cell? ⟨(ad.add (k * 6)).block, (ad.add (k * 6)).off + 4, none⟩ = some (.slice A' n' c') ∧ w.cell? ⟨(ad.add (k * 6)).block, (ad.add (k * 6)).off + 5, none⟩ = some (.pointer ba) := by
  have hlt : k < ps.length := (List.getElem?_eq_some_iff.1 hq).1
  obtain ⟨h1, h2, h3⟩ := h
  obtain ⟨ad, ea, hp, hh⟩ := h3 (by omega)
  obtain ⟨qs, hl, hpa, hcell⟩ := hh k q hq
  cases d with
  | zero => exact hpa.elim
  | succ d =>
    obtain ⟨A', n', c', ba, rfl, hc, hw, hb⟩ := hpa
    refine ⟨ad, A', n', c', ba, ea, hc, hw, hb, hcell 0 _ rfl, ?_, ?_, ?_, ?_, ?_⟩
    · rw [← add_field ad (k * 6) 1 (by omega)]; exact hcell 1 _ rfl
    · rw [← add_field ad (k * 6) 2 (by omega)]; exact hcell 2 _ rfl
    · rw [← add_field ad (k * 6) 3 (by omega)]; exact hcell 3 _ rfl
    · rw [← add_field ad (k * 6) 4 (by omega)]; exact hcell 4 _ rfl
    · rw [← add_field ad (k * 6) 5 (by omega)]; exact hcell 5 _ rfl
theorem loop_at {W : List PartT → EnvT → Option Ans} {deep : Int} {word : List PartT} {k : Nat} {q : PartT} {y : FT} {e : EnvT} {a : Ans} (hq : word[k]? = some q) (h : loopP W deep (word.drop k) y e = some a) :
    if q.kind < 0 ∨ 3 < q.kind then a = ([], 2, e) else ∃ r y' e', partP W deep q y e = some (r, y', e') ∧ (if r ≠ 0 then a = ([], r, e') else loopP W deep (word.drop (k + 1)) y' e' = some a) := by
  have hlt : k < word.length := (List.getElem?_eq_some_iff.1 hq).1
  have hg : word[k] = q := by have := List.getElem?_eq_getElem hlt; rw [hq] at this; cases this; rfl
  rw [List.drop_eq_getElem_cons hlt, hg] at h
  unfold loopP at h
  split at h
  · rename_i hk; rw [if_pos hk]; cases h; rfl
  · rename_i hk
    rw [if_neg hk]
    rw [Option.bind_eq_some_iff] at h
    obtain ⟨⟨r, y', e'⟩, h1, h2⟩ := h
    refine ⟨r, y', e', h1, ?_⟩
    dsimp only at h2
    split at h2
    · rename_i hr; rw [if_pos hr]; cases h2; rfl
    · rename_i hr; rw [if_neg hr]; exact h2

/-- The fields' rows, as they may be read. -/
theorem fld_rows {S' E' : Nat → Prop} {w wr : World} {f g og m oc : Nat} {deep : Int} {y : FT} {e : EnvT} {lv : Sl} {vs : List Sl} (hf : FldIn S' wr f g deep y (.slice (some ⟨og, 0, none⟩) (m + 1) oc) lv vs) (hfw : w.heap.size ≤ f) (hS : ∀ k, S' k → w.heap.size ≤ k) (HE : EnvAt E' wr g e) :
    m + 1 ≤ oc ∧ RowsAt (fun k => w.heap.size ≤ k ∧ k < wr.heap.size ∧ ¬ E' k) wr (some ⟨og, 0, none⟩) (m + 1) y.rows := by
  have hn := (fld_cells hf).1
  obtain ⟨r1, r2, r3⟩ := Kd.R_reads' hf.vO
  obtain ⟨lA, ln, lc⟩ := lv
  obtain ⟨l1, l2, l3⟩ := Kd.R_reads' (show kRn.R 40 wr 0 yes (.slice lA ln lc) y.last from hf.vL)
  have hot : Ty wr og 38 := own_ty hf.vO rfl
  obtain ⟨_, _, _, _, he⟩ := HE
  have hE1 : ∀ k, Ty wr k 38 → ¬ E' k := fun k ht hk => by
    rcases he.ty _ hk with h2 | h2 | h2 <;> exact (ht.ne h2 (by decide)) rfl
  have hE2 : ∀ k, Ty wr k 40 → ¬ E' k := fun k ht hk => by
    rcases he.ty _ hk with h2 | h2 | h2 <;> exact (ht.ne h2 (by decide)) rfl
  have hil := hf.hn
  refine ⟨r2, by unfold FT.rows; rw [List.length_append, List.length_singleton]; omega, by have := r3.2.1; rw [← r1] at this; exact this, fun _ => ⟨⟨og, 0, none⟩, rfl, ⟨hS og (hf.oS og rfl), hot.lt, hE1 _ hot⟩, fun j row hj => ?_⟩⟩
  obtain ⟨ad, e1, hc⟩ := r3.2.2 (by rw [← r1]; omega)
  cases e1
  have hjl : j < m + 1 := by have := (List.getElem?_eq_some_iff.1 hj).1; unfold FT.rows at this; rw [List.length_append, List.length_singleton] at this; omega
  by_cases hjm : j < m
  · have hjv : j < vs.length := by omega
    have hs : vs[j]? = some vs[j] := List.getElem?_eq_getElem hjv
    obtain ⟨cs, _, h2, h3⟩ := hc j vs[j] (by rw [List.getElem?_append_left hjv]; exact hs)
    have hji : y.init[j]? = some row := by unfold FT.rows at hj; rw [List.getElem?_append_left (by omega)] at hj; exact hj
    obtain ⟨q1, q2, q3, q4⟩ := hf.hi j row _ hji hs
    generalize hsj : vs[j] = s at *
    obtain ⟨sA, sn, sc⟩ := s
    simp only at q1 q2 q3 q4
    subst q1
    have h4 : cs = [Sl.v (sA, row.length, sc)] := h2
    subst h4
    refine ⟨sA, sc, ?_, q2, q3, fun a' e5 e6 => ⟨Nat.le_trans hfw (Nat.le_of_lt (hf.new _ (List.mem_of_getElem? hs) a' e5)), (q4 a' e5 e6).2.lt, hE2 _ (q4 a' e5 e6).2⟩⟩
    have h5 := h3 0 _ rfl
    rwa [show j * kSl.sz + 0 = j from by show j * 1 + 0 = j; omega] at h5
  · have hjm' : j = m := by omega
    subst hjm'
    have hrow : row = y.last := by
      unfold FT.rows at hj
      rw [List.getElem?_append_right (by omega), show j - y.init.length = 0 from by omega] at hj
      simpa using hj.symm
    subst hrow
    subst l1
    obtain ⟨cs, _, h2, h3⟩ := hc j (lA, y.last.length, lc) (by rw [List.getElem?_append_right (by omega), show j - vs.length = 0 from by omega]; rfl)
    have h4 : cs = [Sl.v (lA, y.last.length, lc)] := h2
    subst h4
    refine ⟨lA, lc, ?_, l2, l3, fun a' e5 e6 => ?_⟩
    · have h5 := h3 0 _ rfl
      rwa [show j * kSl.sz + 0 = j from by show j * 1 + 0 = j; omega] at h5
    · subst e5
      have ht : Ty wr a'.block 40 := own_ty hf.vL rfl
      exact ⟨Nat.le_trans hfw (Nat.le_of_lt (hf.lNew _ rfl)), ht.lt, hE2 _ ht⟩

set_option maxHeartbeats 1600000 in
set_option maxRecDepth 100000 in
/-- Too deep. -/
theorem expand_deep {deep : Int} {d : Nat} (hd : 20 < deep) : ExpandOk deep d (expandP 0 deep) := by
  intro E P g e word a A n c w HE hw hc hP h
  cases h
  have HH := Lib.hid HE
  clear HE hw hP
  go_enter Tryd.func18, Tryd.ntmps18
  go_wp2
  go_ret2
  exact ⟨none, 0, 0, E, rfl, ⟨rfl, by decide, fun h => absurd h (by decide)⟩, Nat.le_refl _, HH.out, Mod.refl _ _, fun _ _ h => h⟩

set_option maxHeartbeats 3200000 in
set_option maxRecDepth 100000 in
theorem expand_try {W : List PartT → EnvT → Option Ans} {deep : Int} {d : Nat} (hX : ExpandOk (deep + 1) (d - 1) W) (hT : MOk 32 (trimP W) deep (d - 1)) (hd0 : 0 ≤ deep) (hd1 : deep ≤ 20) (E P : Nat → Prop) (g : Nat) (e : EnvT) (word : List PartT) (a : Ans) (A : Option Addr) (n c : Nat) (w : World) (HE : EnvAt E w g e) (hw : WordAt d P w A n word) (hc : n ≤ c) (hP : ∀ k, P k → ¬ E k) (h : loopP W deep word ⟨[], []⟩ e = some a) :
    Calls Tryd.prog 18 #[.slice A n c, .iface 28 (.pointer (some ⟨g, 0, none⟩)), .int .i64 deep] w fun en w' => WPost E w g a en w' := by
  have HH := Lib.hid (And.intro HE (And.intro hw (And.intro hP h)))
  have HXT := Lib.hid (And.intro hX hT)
  clear HE hw hP h hX hT
  go_enter Tryd.func18, Tryd.ntmps18
  go_wp2
  go_loopw [31] (fun i wr => ∃ k : Nat, k ≤ n ∧ i = .int .i64 k ∧ Hid (LoopAt W deep d E (fun k => P k ∧ k < w.heap.size) w g word a A n k wr)) (fun i _ => n - (intOf i).toNat)
  case atStart => exact ⟨0, Nat.zero_le _, rfl, Lib.hid (LoopAt.start HH.out.1 HH.out.2.1.lt HH.out.2.2.2 (env_tab HH.out.1))⟩
  case round =>
    obtain ⟨k, hk, rfl, hl⟩ := hrel
    have hwl : word.length = n := HH.out.2.1.1
    have hn9 := HH.out.2.1.2.1
    obtain ⟨y, e', S', E', hL⟩ := hl.out
    clear hl
    by_cases hlt : k < n
    · obtain ⟨q, hq⟩ : ∃ q, word[k]? = some q := ⟨_, List.getElem?_eq_getElem (by omega)⟩
      obtain ⟨ad, A', n', c', ba, rfl, hnc, hwq, hbq, p0, p1, p2, p3, p4, p5⟩ := hL.wd.at_ hq
      have HC := Lib.hid (loop_at hq hL.comes)
      have HQ := Lib.hid (And.intro hnc (And.intro hwq hbq))
      have HL := Lib.hid hL
      clear hL hnc hwq hbq hq
      obtain ⟨kd, t, op, qu, pw, pb⟩ := q
      simp only [PartT.kind, PartT.text, PartT.op, PartT.quoted] at p0 p1 p2 p3
      by_cases hkd : kd < 0 ∨ 3 < kd
      · have hA : a = ([], 2, e') := by
          have h9 := HC.out
          change (if kd < 0 ∨ 3 < kd then _ else _) at h9
          rwa [if_pos hkd] at h9
        subst hA
        rcases hkd with hkd | hkd
        · go_wp2
          go_ret2
          exact HL.out.err (below_a _ _) rfl
        · have hkd0 : ¬ kd < 0 := by omega
          go_wp2
          go_ret2
          exact HL.out.err (below_a _ _) rfl
      · have hk4 : kd = 0 ∨ kd = 1 ∨ kd = 2 ∨ kd = 3 := by omega
        have h9 := HC.out
        change (if kd < 0 ∨ 3 < kd then _ else _) at h9
        rw [if_neg hkd] at h9
        obtain ⟨r, y2, e2, hp, hr⟩ := h9
        have HR := Lib.hid hr
        have hPE : ∀ k, (P k ∧ k < w.heap.size) → ¬ E' k := fun k hk he => HH.out.2.2.1 k hk.1 (HL.out.eOld k hk.2 he)
        have HPE := Lib.hid hPE
        have HPP := Lib.hid hp
        have HO4 := Lib.hid HL.out.four
        clear hr hPE hp HC hkd
        rcases hk4 with rfl | rfl | rfl | rfl
        · have HP0 := Lib.hid (show litP deep (.mk 0 t op qu pw pb) y e' = some (r, y2, e2) from HPP.out)
          go_wp2
          generalize hW : wr.alloc _ = W1
          have HB := Lib.hid (show Below wr.heap.size wr W1 from hW ▸ below_a wr _)
          have HBX : Hid (W1.heap[wr.heap.size]? = some (.cells #[.int .i64 0, .string t, .string op, .bool qu, .slice A' n' c', .pointer ba] 47 (0, 0))) := Lib.hid (by rw [← hW]; exact heap_alloc_new wr _)
          clear hW
          have HF4 := Lib.hid (below_obj HB.out HO4.out)
          have HNN := Lib.hid (show (¬ (S' wr.heap.size ∨ E' wr.heap.size)) ∧ ¬ (S' (w.heap.size + 1 + 1) ∨ E' (w.heap.size + 1 + 1)) from ⟨fun h => h.elim (fld_lt HL.out.fld (Nat.le_refl _)) (env_lt HL.out.env (Nat.le_refl _)), four_not HL.out⟩)
          obtain ⟨b0, b1, b2, b3, b4, b5⟩ : _ ∧ _ ∧ _ ∧ _ ∧ _ ∧ _ := ⟨blk_cell HBX.out 0, blk_cell HBX.out 1, blk_cell HBX.out 2, blk_cell HBX.out 3, blk_cell HBX.out 4, blk_cell HBX.out 5⟩
          simp only [List.getElem?_toArray, List.getElem?_cons_zero, List.getElem?_cons_succ] at b0 b1 b2 b3 b4 b5
          have b6 : W1.cell? ⟨w.heap.size + 1 + 1, 0, none⟩ = some (.func (.func 19) #[.pointer (some ⟨w.heap.size + 1, 0, none⟩)] #[]) := (blk_cell HF4.out 0).trans rfl
          clear p0 p1 p2 p3 p4 p5
          go_region_held3 (fun w' => w'.cell? ⟨wr.heap.size, 0, none⟩ = some (.int .i64 0) ∧ w'.cell? ⟨wr.heap.size, 1, none⟩ = some (.string t) ∧ w'.cell? ⟨wr.heap.size, 2, none⟩ = some (.string op) ∧ w'.cell? ⟨wr.heap.size, 3, none⟩ = some (.bool qu) ∧ w'.cell? ⟨wr.heap.size, 4, none⟩ = some (.slice A' n' c') ∧ w'.cell? ⟨wr.heap.size, 5, none⟩ = some (.pointer ba) ∧ w'.cell? ⟨w.heap.size + 1 + 1, 0, none⟩ = some (.func (.func 19) #[.pointer (some ⟨w.heap.size + 1, 0, none⟩)] #[])) (go_keep) ((go_at_call 19; refine (lit_m S' E' (w.heap.size + 1) g deep (.mk 0 t op qu pw pb) A' n' c' ba y y2 e' e2 r _ (FldAt.below HL.out.fld HB.out.drew) (EnvAt.below HL.out.env HB.out.drew) HP0.out).mono ?_; rintro en w2 ⟨rfl, h1⟩; obtain ⟨S2, E2, m1, m2, m3, m4, m5⟩ := id h1; have r0 := Mod.cell m3 (show W1.drew.cell? _ = _ from b0) HNN.out.1; have r1 := Mod.cell m3 (show W1.drew.cell? _ = _ from b1) HNN.out.1; have r2 := Mod.cell m3 (show W1.drew.cell? _ = _ from b2) HNN.out.1; have r3 := Mod.cell m3 (show W1.drew.cell? _ = _ from b3) HNN.out.1; have r4 := Mod.cell m3 (show W1.drew.cell? _ = _ from b4) HNN.out.1; have r5 := Mod.cell m3 (show W1.drew.cell? _ = _ from b5) HNN.out.1; have r6 := Mod.cell m3 (show W1.drew.cell? _ = _ from b6) HNN.out.2; have HM := Lib.hid h1; clear h1 m1 m2 m3 m4 m5))
          clear b0 b1 b2 b3 b4 b5 b6
          by_cases hr0 : r = 0
          · subst hr0
            have HCC := Lib.hid (show loopP W deep (word.drop (k + 1)) y2 e2 = some a from HR.out)
            go_wp2
            go_roundw
            case rel =>
              obtain ⟨S2, E2, hN⟩ := HL.out.next (fun k hk => ⟨HH.out.2.2.1 k hk.1, hk.2⟩) HB.out.drew HM.out HCC.out
              exact ⟨k + 1, by go_num, by go_num, Lib.hid ⟨_, _, S2, E2, hN⟩⟩
            case measure => simp [intOf]; omega
          · have hA : a = ([], r, e2) := by have := HR.out; rwa [if_pos hr0] at this
            subst hA
            go_wp2
            go_ret2
            obtain ⟨S2, E2, hN⟩ := HL.out.next (fun k hk => ⟨HH.out.2.2.1 k hk.1, hk.2⟩) HB.out.drew HM.out (j := word.length) (a2 := (y2.rows, 0, e2)) (by rw [List.drop_length]; rfl)
            exact hN.err (Below.refl _ _) rfl
        · have HP0 := Lib.hid (show quotedP (.mk 1 t op qu pw pb) y e' = some (r, y2, e2) from HPP.out)
          go_wp2
          generalize hW : wr.alloc _ = W1
          have HB := Lib.hid (show Below wr.heap.size wr W1 from hW ▸ below_a wr _)
          have HBX : Hid (W1.heap[wr.heap.size]? = some (.cells #[.int .i64 1, .string t, .string op, .bool qu, .slice A' n' c', .pointer ba] 47 (0, 0))) := Lib.hid (by rw [← hW]; exact heap_alloc_new wr _)
          clear hW
          have HF4 := Lib.hid (below_obj HB.out HO4.out)
          have HNN := Lib.hid (show (¬ (S' wr.heap.size ∨ E' wr.heap.size)) ∧ ¬ (S' (w.heap.size + 1 + 1) ∨ E' (w.heap.size + 1 + 1)) from ⟨fun h => h.elim (fld_lt HL.out.fld (Nat.le_refl _)) (env_lt HL.out.env (Nat.le_refl _)), four_not HL.out⟩)
          obtain ⟨b0, b1, b2, b3, b4, b5⟩ : _ ∧ _ ∧ _ ∧ _ ∧ _ ∧ _ := ⟨blk_cell HBX.out 0, blk_cell HBX.out 1, blk_cell HBX.out 2, blk_cell HBX.out 3, blk_cell HBX.out 4, blk_cell HBX.out 5⟩
          simp only [List.getElem?_toArray, List.getElem?_cons_zero, List.getElem?_cons_succ] at b0 b1 b2 b3 b4 b5
          have b6 : W1.cell? ⟨w.heap.size + 1 + 1, 1, none⟩ = some (.func (.func 20) #[.pointer (some ⟨w.heap.size + 1, 0, none⟩)] #[]) := (blk_cell HF4.out 1).trans rfl
          clear p0 p1 p2 p3 p4 p5
          go_region_held3 (fun w' => w'.cell? ⟨wr.heap.size, 0, none⟩ = some (.int .i64 1) ∧ w'.cell? ⟨wr.heap.size, 1, none⟩ = some (.string t) ∧ w'.cell? ⟨wr.heap.size, 2, none⟩ = some (.string op) ∧ w'.cell? ⟨wr.heap.size, 3, none⟩ = some (.bool qu) ∧ w'.cell? ⟨wr.heap.size, 4, none⟩ = some (.slice A' n' c') ∧ w'.cell? ⟨wr.heap.size, 5, none⟩ = some (.pointer ba) ∧ w'.cell? ⟨w.heap.size + 1 + 1, 1, none⟩ = some (.func (.func 20) #[.pointer (some ⟨w.heap.size + 1, 0, none⟩)] #[])) (go_keep) ((go_at_call 20; refine (quoted_m S' E' (w.heap.size + 1) g deep (.mk 1 t op qu pw pb) A' n' c' ba y y2 e' e2 r _ (FldAt.below HL.out.fld HB.out.drew) (EnvAt.below HL.out.env HB.out.drew) HP0.out).mono ?_; rintro en w2 ⟨rfl, h1⟩; obtain ⟨S2, E2, m1, m2, m3, m4, m5⟩ := id h1; have r0 := Mod.cell m3 (show W1.drew.cell? _ = _ from b0) HNN.out.1; have r1 := Mod.cell m3 (show W1.drew.cell? _ = _ from b1) HNN.out.1; have r2 := Mod.cell m3 (show W1.drew.cell? _ = _ from b2) HNN.out.1; have r3 := Mod.cell m3 (show W1.drew.cell? _ = _ from b3) HNN.out.1; have r4 := Mod.cell m3 (show W1.drew.cell? _ = _ from b4) HNN.out.1; have r5 := Mod.cell m3 (show W1.drew.cell? _ = _ from b5) HNN.out.1; have r6 := Mod.cell m3 (show W1.drew.cell? _ = _ from b6) HNN.out.2; have HM := Lib.hid h1; clear h1 m1 m2 m3 m4 m5))
          clear b0 b1 b2 b3 b4 b5 b6
          by_cases hr0 : r = 0
          · subst hr0
            have HCC := Lib.hid (show loopP W deep (word.drop (k + 1)) y2 e2 = some a from HR.out)
            go_wp2
            go_roundw
            case rel =>
              obtain ⟨S2, E2, hN⟩ := HL.out.next (fun k hk => ⟨HH.out.2.2.1 k hk.1, hk.2⟩) HB.out.drew HM.out HCC.out
              exact ⟨k + 1, by go_num, by go_num, Lib.hid ⟨_, _, S2, E2, hN⟩⟩
            case measure => simp [intOf]; omega
          · have hA : a = ([], r, e2) := by have := HR.out; rwa [if_pos hr0] at this
            subst hA
            go_wp2
            go_ret2
            obtain ⟨S2, E2, hN⟩ := HL.out.next (fun k hk => ⟨HH.out.2.2.1 k hk.1, hk.2⟩) HB.out.drew HM.out (j := word.length) (a2 := (y2.rows, 0, e2)) (by rw [List.drop_length]; rfl)
            exact hN.err (Below.refl _ _) rfl
        · have HP0 := Lib.hid (show paramP W (.mk 2 t op qu pw pb) y e' = some (r, y2, e2) from HPP.out)
          go_wp2
          generalize hW : wr.alloc _ = W1
          have HB := Lib.hid (show Below wr.heap.size wr W1 from hW ▸ below_a wr _)
          have HBX : Hid (W1.heap[wr.heap.size]? = some (.cells #[.int .i64 2, .string t, .string op, .bool qu, .slice A' n' c', .pointer ba] 47 (0, 0))) := Lib.hid (by rw [← hW]; exact heap_alloc_new wr _)
          clear hW
          have HF4 := Lib.hid (below_obj HB.out HO4.out)
          have HNN := Lib.hid (show (¬ (S' wr.heap.size ∨ E' wr.heap.size)) ∧ ¬ (S' (w.heap.size + 1 + 1) ∨ E' (w.heap.size + 1 + 1)) from ⟨fun h => h.elim (fld_lt HL.out.fld (Nat.le_refl _)) (env_lt HL.out.env (Nat.le_refl _)), four_not HL.out⟩)
          obtain ⟨b0, b1, b2, b3, b4, b5⟩ : _ ∧ _ ∧ _ ∧ _ ∧ _ ∧ _ := ⟨blk_cell HBX.out 0, blk_cell HBX.out 1, blk_cell HBX.out 2, blk_cell HBX.out 3, blk_cell HBX.out 4, blk_cell HBX.out 5⟩
          simp only [List.getElem?_toArray, List.getElem?_cons_zero, List.getElem?_cons_succ] at b0 b1 b2 b3 b4 b5
          have b6 : W1.cell? ⟨w.heap.size + 1 + 1, 2, none⟩ = some (.func (.func 21) #[.pointer (some ⟨w.heap.size + 1, 0, none⟩)] #[]) := (blk_cell HF4.out 2).trans rfl
          clear p0 p1 p2 p3 p4 p5
          go_region_held3 (fun w' => w'.cell? ⟨wr.heap.size, 0, none⟩ = some (.int .i64 2) ∧ w'.cell? ⟨wr.heap.size, 1, none⟩ = some (.string t) ∧ w'.cell? ⟨wr.heap.size, 2, none⟩ = some (.string op) ∧ w'.cell? ⟨wr.heap.size, 3, none⟩ = some (.bool qu) ∧ w'.cell? ⟨wr.heap.size, 4, none⟩ = some (.slice A' n' c') ∧ w'.cell? ⟨wr.heap.size, 5, none⟩ = some (.pointer ba) ∧ w'.cell? ⟨w.heap.size + 1 + 1, 2, none⟩ = some (.func (.func 21) #[.pointer (some ⟨w.heap.size + 1, 0, none⟩)] #[])) (go_keep) ((go_at_call 21; refine (param_m HXT.out.1 hd0 (by omega) HXT.out.2 S' E' (fun k => P k ∧ k < w.heap.size) (w.heap.size + 1) g (.mk 2 t op qu pw pb) A' n' c' ba y y2 e' e2 r _ (FldAt.below HL.out.fld HB.out.drew) (EnvAt.below HL.out.env HB.out.drew) (WordAt.below HQ.out.2.1 HB.out.drew) HQ.out.1 HPE.out HP0.out).mono ?_; rintro en w2 ⟨rfl, h1⟩; obtain ⟨S2, E2, m1, m2, m3, m4, m5⟩ := id h1; have r0 := Mod.cell m3 (show W1.drew.cell? _ = _ from b0) HNN.out.1; have r1 := Mod.cell m3 (show W1.drew.cell? _ = _ from b1) HNN.out.1; have r2 := Mod.cell m3 (show W1.drew.cell? _ = _ from b2) HNN.out.1; have r3 := Mod.cell m3 (show W1.drew.cell? _ = _ from b3) HNN.out.1; have r4 := Mod.cell m3 (show W1.drew.cell? _ = _ from b4) HNN.out.1; have r5 := Mod.cell m3 (show W1.drew.cell? _ = _ from b5) HNN.out.1; have r6 := Mod.cell m3 (show W1.drew.cell? _ = _ from b6) HNN.out.2; have HM := Lib.hid h1; clear h1 m1 m2 m3 m4 m5))
          clear b0 b1 b2 b3 b4 b5 b6
          by_cases hr0 : r = 0
          · subst hr0
            have HCC := Lib.hid (show loopP W deep (word.drop (k + 1)) y2 e2 = some a from HR.out)
            go_wp2
            go_roundw
            case rel =>
              obtain ⟨S2, E2, hN⟩ := HL.out.next (fun k hk => ⟨HH.out.2.2.1 k hk.1, hk.2⟩) HB.out.drew HM.out HCC.out
              exact ⟨k + 1, by go_num, by go_num, Lib.hid ⟨_, _, S2, E2, hN⟩⟩
            case measure => simp [intOf]; omega
          · have hA : a = ([], r, e2) := by have := HR.out; rwa [if_pos hr0] at this
            subst hA
            go_wp2
            go_ret2
            obtain ⟨S2, E2, hN⟩ := HL.out.next (fun k hk => ⟨HH.out.2.2.1 k hk.1, hk.2⟩) HB.out.drew HM.out (j := word.length) (a2 := (y2.rows, 0, e2)) (by rw [List.drop_length]; rfl)
            exact hN.err (Below.refl _ _) rfl
        · have HP0 := Lib.hid (show substP (.mk 3 t op qu pw pb) y e' = some (r, y2, e2) from HPP.out)
          go_wp2
          generalize hW : wr.alloc _ = W1
          have HB := Lib.hid (show Below wr.heap.size wr W1 from hW ▸ below_a wr _)
          have HBX : Hid (W1.heap[wr.heap.size]? = some (.cells #[.int .i64 3, .string t, .string op, .bool qu, .slice A' n' c', .pointer ba] 47 (0, 0))) := Lib.hid (by rw [← hW]; exact heap_alloc_new wr _)
          clear hW
          have HF4 := Lib.hid (below_obj HB.out HO4.out)
          have HNN := Lib.hid (show (¬ (S' wr.heap.size ∨ E' wr.heap.size)) ∧ ¬ (S' (w.heap.size + 1 + 1) ∨ E' (w.heap.size + 1 + 1)) from ⟨fun h => h.elim (fld_lt HL.out.fld (Nat.le_refl _)) (env_lt HL.out.env (Nat.le_refl _)), four_not HL.out⟩)
          obtain ⟨b0, b1, b2, b3, b4, b5⟩ : _ ∧ _ ∧ _ ∧ _ ∧ _ ∧ _ := ⟨blk_cell HBX.out 0, blk_cell HBX.out 1, blk_cell HBX.out 2, blk_cell HBX.out 3, blk_cell HBX.out 4, blk_cell HBX.out 5⟩
          simp only [List.getElem?_toArray, List.getElem?_cons_zero, List.getElem?_cons_succ] at b0 b1 b2 b3 b4 b5
          have b6 : W1.cell? ⟨w.heap.size + 1 + 1, 3, none⟩ = some (.func (.func 22) #[.pointer (some ⟨w.heap.size + 1, 0, none⟩)] #[]) := (blk_cell HF4.out 3).trans rfl
          clear p0 p1 p2 p3 p4 p5
          go_region_held3 (fun w' => w'.cell? ⟨wr.heap.size, 0, none⟩ = some (.int .i64 3) ∧ w'.cell? ⟨wr.heap.size, 1, none⟩ = some (.string t) ∧ w'.cell? ⟨wr.heap.size, 2, none⟩ = some (.string op) ∧ w'.cell? ⟨wr.heap.size, 3, none⟩ = some (.bool qu) ∧ w'.cell? ⟨wr.heap.size, 4, none⟩ = some (.slice A' n' c') ∧ w'.cell? ⟨wr.heap.size, 5, none⟩ = some (.pointer ba) ∧ w'.cell? ⟨w.heap.size + 1 + 1, 3, none⟩ = some (.func (.func 22) #[.pointer (some ⟨w.heap.size + 1, 0, none⟩)] #[])) (go_keep) ((go_at_call 22; refine (subst_m S' E' (fun k => P k ∧ k < w.heap.size) (w.heap.size + 1) g deep (.mk 3 t op qu pw pb) A' n' c' ba y y2 e' e2 r _ (FldAt.below HL.out.fld HB.out.drew) (EnvAt.below HL.out.env HB.out.drew) HPE.out (BodyAt.mod HQ.out.2.2 (S := fun _ => False) (Mod.below HB.out.drew) (fun _ _ e => e)) HP0.out).mono ?_; rintro en w2 ⟨rfl, h1⟩; obtain ⟨S2, E2, m1, m2, m3, m4, m5⟩ := id h1; have r0 := Mod.cell m3 (show W1.drew.cell? _ = _ from b0) HNN.out.1; have r1 := Mod.cell m3 (show W1.drew.cell? _ = _ from b1) HNN.out.1; have r2 := Mod.cell m3 (show W1.drew.cell? _ = _ from b2) HNN.out.1; have r3 := Mod.cell m3 (show W1.drew.cell? _ = _ from b3) HNN.out.1; have r4 := Mod.cell m3 (show W1.drew.cell? _ = _ from b4) HNN.out.1; have r5 := Mod.cell m3 (show W1.drew.cell? _ = _ from b5) HNN.out.1; have r6 := Mod.cell m3 (show W1.drew.cell? _ = _ from b6) HNN.out.2; have HM := Lib.hid h1; clear h1 m1 m2 m3 m4 m5))
          clear b0 b1 b2 b3 b4 b5 b6
          by_cases hr0 : r = 0
          · subst hr0
            have HCC := Lib.hid (show loopP W deep (word.drop (k + 1)) y2 e2 = some a from HR.out)
            go_wp2
            go_roundw
            case rel =>
              obtain ⟨S2, E2, hN⟩ := HL.out.next (fun k hk => ⟨HH.out.2.2.1 k hk.1, hk.2⟩) HB.out.drew HM.out HCC.out
              exact ⟨k + 1, by go_num, by go_num, Lib.hid ⟨_, _, S2, E2, hN⟩⟩
            case measure => simp [intOf]; omega
          · have hA : a = ([], r, e2) := by have := HR.out; rwa [if_pos hr0] at this
            subst hA
            go_wp2
            go_ret2
            obtain ⟨S2, E2, hN⟩ := HL.out.next (fun k hk => ⟨HH.out.2.2.1 k hk.1, hk.2⟩) HB.out.drew HM.out (j := word.length) (a2 := (y2.rows, 0, e2)) (by rw [List.drop_length]; rfl)
            exact hN.err (Below.refl _ _) rfl
    · have e0 : k = n := by omega
      subst e0
      have hA : a = (y.rows, 0, e') := by
        have := hL.comes
        rw [← hwl, List.drop_length] at this
        cases this
        rfl
      subst hA
      obtain ⟨ov, lv, vs, hf⟩ := id hL.fld
      obtain ⟨og, oc, rfl⟩ := fld_form hf
      generalize hvn : vs.length = m at hf
      obtain ⟨-, c0, c1, c2, f1, cl, fl, ft, ot, ne⟩ := fld_cells hf
      obtain ⟨hoc, hR⟩ := fld_rows hf (Nat.le_succ _) hL.sNew hL.env
      have HR := Lib.hid (And.intro hR (And.intro hL.env (And.intro hL.mod hL.eOld)))
      clear hL hR hf hvn c0 c2 f1 cl fl ot ne
      go_wp2_with (go_at_call 23; refine (clip_walk og (m + 1) oc _ hoc).mono ?_; rintro en w2 ⟨rfl, rfl⟩)
      go_ret2
      exact ⟨_, _, _, E', rfl, HR.out.1, Nat.le_refl _, HR.out.2.1, HR.out.2.2.1, HR.out.2.2.2⟩

end Go.Proofs.YthbnnlhkcaomlaaDoor.Ex

/- The walk of trim. -/
namespace Go.Proofs.YthbnnlhkcaomlaaDoor.Ex
open Go.RowKit Go.Shelf Go.Proofs.YthbnnlhkcaomlaaDoorW.PrintWords Go.Proofs.YthbnnlhkcaomlaaDoor.Gl

theorem c_reads {w : World} {A : Option Addr} {l : List Rn} (h3 : kRn.C w A l.length l) : ReadsRn w A l := by
  refine ⟨h3.1, h3.2.1, fun hn => ?_⟩
  obtain ⟨ad, e, hc⟩ := h3.2.2 hn
  refine ⟨ad, e, fun j p hj => ?_⟩
  obtain ⟨cs, h4, h5, h6⟩ := hc j p hj
  exact ⟨cs, h4, kRn_K h5, h6⟩
theorem two_new (w : World) (o1 o2 : Obj) : ((w.alloc o1).alloc o2).heap[w.heap.size]? = some o1 ∧ ((w.alloc o1).alloc o2).heap[w.heap.size + 1]? = some o2 := by
  have h := three_new w o1 o2 o2
  constructor
  · exact below_obj (below_a _ _) (heap_alloc_new _ _)
  · have := heap_alloc_new (w.alloc o1) o2
    rwa [show (w.alloc o1).heap.size = w.heap.size + 1 from by simp] at this
theorem keep_set {w : World} {a p : Addr} {u v : Value} (h : w.cell? a = some u) (hn : a.block ≠ p.block) : (w.setCell p v).cell? a = some u :=
  Mod.cell (S := fun k => k = p.block) ((Mod.refl (fun k => k = p.block) w).setCell (p := p) (fun _ => rfl) v) h hn

theorem drew_0 (w : World) : Below w.heap.size w w.drew := (Below.refl _ _).drew
theorem drew_1 (w : World) (o : Obj) : Below w.heap.size w (w.drew.alloc o) := (Below.refl _ _).drew.trans (below_a w.drew o)
theorem drew_2 (w : World) (o p : Obj) : Below w.heap.size w ((w.drew.alloc o).alloc p) := (Below.refl _ _).drew.trans (below_aa w.drew o p)
theorem drew_3 (w : World) (o p q : Obj) : Below w.heap.size w (((w.drew.alloc o).alloc p).alloc q) := (Below.refl _ _).drew.trans (below_3 w.drew o p q)
theorem keep_alloc {w : World} {a : Addr} {u : Value} (o : Obj) (h : w.cell? a = some u) : (w.alloc o).cell? a = some u := pw_cell_below (below_a w o) h
/-- What the three boxes of trim's closure hold. -/
structure TrimAt (w1 wx : World) (Np Ns Nn : Nat) (A3 : Option Addr) (c3 : Nat) (out : List Rn) (v : B) : Prop where
  p : wx.cell? ⟨Np, 0, none⟩ = some (.slice A3 out.length c3)
  s : wx.cell? ⟨Ns, 0, none⟩ = some (.string v)
  n : wx.cell? ⟨Nn, 0, none⟩ = some (.int .i64 (v.size : Int))
  row : ReadsRn wx A3 out
  lt : ∀ ad, A3 = some ad → 0 < out.length → ad.block < wx.heap.size
  bel : Below w1.heap.size w1 wx
theorem trim_cells {w1 wx : World} {Np Ns Nn : Nat} {u1 u2 u3 : Value} {A3 : Option Addr} {c3 : Nat} {out : List Rn} {v : B} (t1 : wx.heap[Np]? = some (.cells #[u1] 38 (0, 0))) (t2 : wx.heap[Ns]? = some (.cells #[u2] 9 (0, 0))) (t3 : wx.heap[Nn]? = some (.cells #[u3] 3 (0, 0)))
    (hb : Below w1.heap.size w1 wx) (b1 : w1.heap.size ≤ Np) (b2 : w1.heap.size ≤ Ns) (b3 : w1.heap.size ≤ Nn) (hr : kRn.C wx A3 out.length out) (hA : ∀ ad, A3 = some ad → 0 < out.length → Ty wx ad.block 40) :
    TrimAt w1 (((wx.setCell ⟨Np, 0, none⟩ (.slice A3 out.length c3)).setCell ⟨Ns, 0, none⟩ (.string v)).setCell ⟨Nn, 0, none⟩ (.int .i64 (v.size : Int))) Np Ns Nn A3 c3 out v := by
  have n12 : Np ≠ Ns := Ty.ne ⟨_, _, t1⟩ ⟨_, _, t2⟩ (by decide)
  have n13 : Np ≠ Nn := Ty.ne ⟨_, _, t1⟩ ⟨_, _, t3⟩ (by decide)
  have n23 : Ns ≠ Nn := Ty.ne ⟨_, _, t2⟩ ⟨_, _, t3⟩ (by decide)
  have hS : Mod (fun k => k = Np ∨ k = Ns ∨ k = Nn) wx (((wx.setCell ⟨Np, 0, none⟩ (.slice A3 out.length c3)).setCell ⟨Ns, 0, none⟩ (.string v)).setCell ⟨Nn, 0, none⟩ (.int .i64 (v.size : Int))) :=
    ((((Mod.refl (fun k => k = Np ∨ k = Ns ∨ k = Nn) wx).setCell (p := ⟨Np, 0, none⟩) (fun _ => .inl rfl) _).setCell (p := ⟨Ns, 0, none⟩) (fun _ => .inr (.inl rfl)) _).setCell (p := ⟨Nn, 0, none⟩) (fun _ => .inr (.inr rfl)) _)
  have hn : ∀ ad : Addr, A3 = some ad → 0 < out.length → ¬ (ad.block = Np ∨ ad.block = Ns ∨ ad.block = Nn) := by
    intro ad e1 e2
    have ht := hA ad e1 e2
    rintro (h | h | h)
    · exact (ht.ne ⟨_, _, t1⟩ (by decide)) h
    · exact (ht.ne ⟨_, _, t2⟩ (by decide)) h
    · exact (ht.ne ⟨_, _, t3⟩ (by decide)) h
  have z1 : (wx.setCell ⟨Np, 0, none⟩ (.slice A3 out.length c3)).heap[Np]? = some (.cells #[.slice A3 out.length c3] 38 (0, 0)) := heap_same_to t1 rfl
  have z2 : ((wx.setCell ⟨Np, 0, none⟩ (.slice A3 out.length c3)).setCell ⟨Ns, 0, none⟩ (.string v)).heap[Ns]? = some (.cells #[.string v] 9 (0, 0)) := heap_same_to (Mod.obj (S := fun k => k = Np) ((Mod.refl (fun k => k = Np) wx).setCell (p := ⟨Np, 0, none⟩) (fun _ => rfl) _) t2 (fun h => n12 h.symm)) rfl
  have z3 : (((wx.setCell ⟨Np, 0, none⟩ (.slice A3 out.length c3)).setCell ⟨Ns, 0, none⟩ (.string v)).setCell ⟨Nn, 0, none⟩ (.int .i64 (v.size : Int))).heap[Nn]? = some (.cells #[.int .i64 (v.size : Int)] 3 (0, 0)) :=
    heap_same_to (Mod.obj (S := fun k => k = Ns) ((Mod.refl (fun k => k = Ns) _).setCell (p := ⟨Ns, 0, none⟩) (fun _ => rfl) _) (Mod.obj (S := fun k => k = Np) ((Mod.refl (fun k => k = Np) wx).setCell (p := ⟨Np, 0, none⟩) (fun _ => rfl) _) t3 (fun h => n13 h.symm)) (fun h => n23 h.symm)) rfl
  refine ⟨?_, ?_, (blk_cell z3 0).trans rfl, c_reads (rn_C hr hS hn), fun ad e1 e2 => Nat.lt_of_lt_of_le (hA ad e1 e2).lt hS.size, ((hb.setCell b1 _).setCell b2 _).setCell b3 _⟩
  · exact keep_set (keep_set ((blk_cell z1 0).trans rfl) n12) n13
  · exact keep_set ((blk_cell z2 0).trans rfl) n23

/-- The closure, both operators. -/
theorem cut_m (N Np Ns Nn : Nat) (op s : B) (out : List Rn) (A : Option Addr) (c : Nat) (i : Nat) (w : World) (h1 : w.cell? ⟨N, 2, none⟩ = some (.string op)) (h2 : w.cell? ⟨Ns, 0, none⟩ = some (.string s)) (h3 : w.cell? ⟨Np, 0, none⟩ = some (.slice A out.length c)) (h4 : w.cell? ⟨Nn, 0, none⟩ = some (.int .i64 (s.size : Int)))
    (hA : ∀ ad, A = some ad → 0 < out.length → ad.block < w.heap.size) (hR : ReadsRn w A out) (hts : (charsOf out).length ≤ 1099511627776) (hs : s.size ≤ 1099511627776) (hi : i ≤ s.size) (hop : 0 < op.size) :
    Calls Tryd.prog 45 #[.int .i64 (i : Int), .pointer (some ⟨N, 0, none⟩), .pointer (some ⟨Ns, 0, none⟩), .pointer (some ⟨Np, 0, none⟩), .pointer (some ⟨Nn, 0, none⟩)] w fun en w' =>
      en = .returned (.tuple #[.string (cutAt (charsOf out) op s i).1, .bool (cutAt (charsOf out) op s i).2]) ∧ Below w.heap.size w w' := by
  have hh : op.data.toList.headD 0 = op[0]'hop := by
    have h5 : op.data.toList[0]? = some (op[0]'hop) := by rw [Array.getElem?_toList]; exact Array.getElem?_eq_getElem _
    rw [List.headD_eq_head?_getD, List.head?_eq_getElem?, h5]
    rfl
  unfold cutAt
  rw [hh]
  by_cases h0 : op[0]'hop = 35
  · rw [if_pos h0]
    exact cut_hash N Np Ns Nn op s out A c i w h1 h2 h3 h4 hA hR hts hs hi hop h0
  · rw [if_neg h0]
    exact cut_pct N Np Ns Nn op s out A c i w h1 h2 h3 h4 hA hR hts hs hi hop h0

end Go.Proofs.YthbnnlhkcaomlaaDoor.Ex

/- The walk of trim. -/
namespace Go.Proofs.YthbnnlhkcaomlaaDoor.Ex
set_option linter.unusedSimpArgs false
open Go.RowKit Go.Shelf Go.Proofs.YthbnnlhkcaomlaaDoorW.PrintWords Go.Proofs.YthbnnlhkcaomlaaDoorW.PrintLast Go.Proofs.YthbnnlhkcaomlaaDoor.Gl

set_option maxHeartbeats 12800000 in
set_option maxRecDepth 100000 in
theorem trim_try {W : List PartT → EnvT → Option Ans} {deep : Int} {d : Nat} (hX : ExpandOk (deep + 1) d W) (hd0 : 0 ≤ deep) (hd1 : deep ≤ 30) (S E P : Nat → Prop) (f g : Nat) (p : PartT) (v : B) (st mi : Bool) (l : List B) (A : Option Addr) (n c : Nat) (ba : Option Addr) (A2 : Option Addr) (n2 c2 : Nat) (y y' : FT) (e e1 : EnvT) (rows : List (List Rn)) (out : List Rn) (w : World) (H : FldAt S w f g deep y) (HE : EnvAt E w g e)
    (hw : WordAt d P w A n p.word) (hc : n ≤ c) (hP : ∀ k, P k → ¬ E k) (ha : W p.word e = some (rows, 0, e1)) (hf : flatP 0 rows [] = some out) (hvs : v.size ≤ 1099511627776) (hcs : (charsOf out).length ≤ 1099511627776) (hop : 0 < p.op.size) (hT : putP y (runP p (cutF (charsOf out) p.op v (v.size + 1) 0)) = some y') :
    Calls Tryd.prog 32 #[.pointer (some ⟨f, 0, none⟩), paramV ⟨p, v, st, l, mi⟩ (.slice A n c) (.pointer ba) (.slice A2 n2 c2)] w fun en w' => en = .returned (.int .i64 0) ∧ MPost S E w f g deep y' e1 w' := by
  have HH := Lib.hid (And.intro H HE)
  have HX := Lib.hid hX
  have HW := Lib.hid (And.intro hw (And.intro hc hP))
  have HA := Lib.hid ha
  have HF := Lib.hid hf
  have HT := Lib.hid hT
  have HC := Lib.hid (And.intro hvs (And.intro hcs hop))
  clear hX hw hc hP ha hf H HE hT hcs hop
  unfold paramV
  go_enter Tryd.func32, Tryd.ntmps32
  go_upto_region 4 with (go_at_call 41; refine (word_m HX.out hd0 hd1 S E P f g p A n c ba y e (rows, 0, e1) _ (FldAt.below HH.out.1 (below_a _ _)) (EnvAt.below HH.out.2 (below_a _ _)) (WordAt.below HW.out.1 (below_a _ _)) HW.out.2.1 HW.out.2.2 HA.out).mono ?_; rintro en w1 ⟨A1, n1, c1, E', rfl, k2, k3, k4, k5, k6⟩; have HK := Lib.hid (And.intro k2 (And.intro k4 (And.intro k5 k6))); have HO := Lib.hid (keep_obj HH.out.2 k5 (Nat.le_refl _) (heap_alloc_new w _)); clear k2 k3 k4 k5 k6)
  have d6 : w1.cell? ⟨w.heap.size, 6, none⟩ = some (.string v) := (blk_cell HO.out 6).trans rfl
  have hl1 : w.heap.size < w1.heap.size := World.block_lt_of_cell? _ _ d6
  go_cut [7, 8, 9] (fun s7 s8 s9 wx => ∃ (Np Ns Nn : Nat) (A3 : Option Addr) (c3 : Nat), s7 = .pointer (some ⟨Np, 0, none⟩) ∧ s8 = .pointer (some ⟨Ns, 0, none⟩) ∧ s9 = .pointer (some ⟨Nn, 0, none⟩) ∧ TrimAt w1 wx Np Ns Nn A3 c3 out v)
  case first =>
    rename_i J K2 hJ hK2
    have hB := drew_0 w1
    -- REGION 4 (printed by wip/gen-trim.py)
    refine start_ (n := 13) (S := fun w' => w'.cell? ⟨w.heap.size, 6, none⟩ = some (.string v)) (ds := []) #[false, false, false, false, false, false, false, false, false, false, false, false, false] (by kernel_rfl) rfl rfl (d6) (fun hHeld => ?_)
    refine pure_ (i := 0) (N := some 24) (v := ?_) (a' := ?_) #[true, false, false, false, false, false, false, false, false, false, false, false, false] rfl rfl (by kernel_rfl) (fun _ _ _ h => h) (Or.inl ⟨by rfl, ?_⟩) ?_ ?_
    rotate_left
    · intro w'
      go_simp
      with_reducible rfl
    rotate_left
    · simp only [Act.put, List.setIfInBounds_toArray, List.set_cons_zero, List.set_cons_succ, i64_w, i32_w]
      rfl
    refine pure_ (i := 2) (N := some 26) (v := ?_) (a' := ?_) #[true, false, true, false, false, false, false, false, false, false, false, false, false] rfl rfl (by kernel_rfl) (fun _ _ _ h => h) (Or.inl ⟨by rfl, ?_⟩) ?_ ?_
    rotate_left
    · intro w'
      go_simp
      with_reducible rfl
    rotate_left
    · simp only [Act.put, List.setIfInBounds_toArray, List.set_cons_zero, List.set_cons_succ, i64_w, i32_w]
      rfl
    refine pure_ (i := 4) (N := some 28) (v := ?_) (a' := ?_) #[true, false, true, false, true, false, false, false, false, false, false, false, false] rfl rfl (by kernel_rfl) (fun _ _ _ h => h) (Or.inl ⟨by rfl, ?_⟩) ?_ ?_
    rotate_left
    · intro w'
      go_simp
      with_reducible rfl
    rotate_left
    · simp only [Act.put, List.setIfInBounds_toArray, List.set_cons_zero, List.set_cons_succ, i64_w, i32_w]
      rfl
    refine take_ (i := 3) (N := some 27) (v := ?_) (a' := ?_) #[true, false, true, true, true, false, false, false, false, false, false, false, false] rfl rfl (by kernel_rfl) (fun _ _ _ h => h) (Or.inl ⟨by rfl, ?_⟩) hHeld ?_ ?_
    rotate_left
    · intro w' s0
      go_simp
      with_reducible rfl
    rotate_left
    · simp only [Act.put, List.setIfInBounds_toArray, List.set_cons_zero, List.set_cons_succ, i64_w, i32_w]
      rfl
    refine take_ (i := 5) (N := some 29) (v := ?_) (a' := ?_) #[true, false, true, true, true, true, false, false, false, false, false, false, false] rfl rfl (by kernel_rfl) (fun _ _ _ h => h) (Or.inl ⟨by rfl, ?_⟩) hHeld ?_ ?_
    rotate_left
    · intro w' s0
      go_simp
      with_reducible rfl
    rotate_left
    · simp only [Act.put, List.setIfInBounds_toArray, List.set_cons_zero, List.set_cons_succ, i64_w, i32_w]
      rfl
    refine pure_ (i := 6) (N := some 30) (v := ?_) (a' := ?_) #[true, false, true, true, true, true, true, false, false, false, false, false, false] rfl rfl (by kernel_rfl) (fun _ _ _ h => h) (Or.inl ⟨by rfl, ?_⟩) ?_ ?_
    rotate_left
    · intro w'
      go_simp
      with_reducible rfl
    rotate_left
    · simp only [Act.put, List.setIfInBounds_toArray, List.set_cons_zero, List.set_cons_succ, i64_w, i32_w]
      rfl
    refine join_ (σ := (Option Addr × Nat) × Nat × Nat × Nat) 3 #[true, true, true, true, true, true, true, true, true, true, false, false, false] (fun s => [(25, Value.slice s.1.1 out.length s.1.2), (7, Value.pointer (some ⟨s.2.1, 0, none⟩)), (8, Value.pointer (some ⟨s.2.2.1, 0, none⟩)), (9, Value.pointer (some ⟨s.2.2.2, 0, none⟩))]) (fun s w' => w'.cell? ⟨w.heap.size, 6, none⟩ = some (.string v) ∧ Below w1.heap.size w1 w' ∧ kRn.C w' s.1.1 out.length out ∧ (∀ ad, s.1.1 = some ad → 0 < out.length → Ty w' ad.block 40) ∧ w'.heap[s.2.1]? = some (.cells #[.slice none 0 0] 38 (0, 0)) ∧ w1.heap.size ≤ s.2.1 ∧ w'.heap[s.2.2.1]? = some (.cells #[.string ⟨#[]⟩] 9 (0, 0)) ∧ w1.heap.size ≤ s.2.2.1 ∧ w'.heap[s.2.2.2]? = some (.cells #[.int .i64 0] 3 (0, 0)) ∧ w1.heap.size ≤ s.2.2.2) ?_ ?_
    rotate_left
    · intro hJ1_7_8_9
      refine join_ (σ := (Option Addr × Nat) × Nat × Nat) 4 #[true, true, true, true, true, true, true, true, true, false, false, false, false] (fun s => [(25, Value.slice s.1.1 out.length s.1.2), (7, Value.pointer (some ⟨s.2.1, 0, none⟩)), (8, Value.pointer (some ⟨s.2.2, 0, none⟩))]) (fun s w' => w'.cell? ⟨w.heap.size, 6, none⟩ = some (.string v) ∧ Below w1.heap.size w1 w' ∧ kRn.C w' s.1.1 out.length out ∧ (∀ ad, s.1.1 = some ad → 0 < out.length → Ty w' ad.block 40) ∧ w'.heap[s.2.1]? = some (.cells #[.slice none 0 0] 38 (0, 0)) ∧ w1.heap.size ≤ s.2.1 ∧ w'.heap[s.2.2]? = some (.cells #[.string ⟨#[]⟩] 9 (0, 0)) ∧ w1.heap.size ≤ s.2.2) ?_ ?_
      rotate_left
      · intro hJ1_7_8
        refine join_ (σ := (Option Addr × Nat) × Nat × Nat) 4 #[true, true, true, true, true, true, true, true, false, true, false, false, false] (fun s => [(25, Value.slice s.1.1 out.length s.1.2), (7, Value.pointer (some ⟨s.2.1, 0, none⟩)), (9, Value.pointer (some ⟨s.2.2, 0, none⟩))]) (fun s w' => w'.cell? ⟨w.heap.size, 6, none⟩ = some (.string v) ∧ Below w1.heap.size w1 w' ∧ kRn.C w' s.1.1 out.length out ∧ (∀ ad, s.1.1 = some ad → 0 < out.length → Ty w' ad.block 40) ∧ w'.heap[s.2.1]? = some (.cells #[.slice none 0 0] 38 (0, 0)) ∧ w1.heap.size ≤ s.2.1 ∧ w'.heap[s.2.2]? = some (.cells #[.int .i64 0] 3 (0, 0)) ∧ w1.heap.size ≤ s.2.2) ?_ ?_
        rotate_left
        · intro hJ1_7_9
          refine join_ (σ := (Option Addr × Nat) × Nat × Nat) 4 #[true, true, true, true, true, true, true, false, true, true, false, false, false] (fun s => [(25, Value.slice s.1.1 out.length s.1.2), (8, Value.pointer (some ⟨s.2.1, 0, none⟩)), (9, Value.pointer (some ⟨s.2.2, 0, none⟩))]) (fun s w' => w'.cell? ⟨w.heap.size, 6, none⟩ = some (.string v) ∧ Below w1.heap.size w1 w' ∧ kRn.C w' s.1.1 out.length out ∧ (∀ ad, s.1.1 = some ad → 0 < out.length → Ty w' ad.block 40) ∧ w'.heap[s.2.1]? = some (.cells #[.string ⟨#[]⟩] 9 (0, 0)) ∧ w1.heap.size ≤ s.2.1 ∧ w'.heap[s.2.2]? = some (.cells #[.int .i64 0] 3 (0, 0)) ∧ w1.heap.size ≤ s.2.2) ?_ ?_
          rotate_left
          · intro hJ1_8_9
            refine join_ (σ := Nat × Nat × Nat) 4 #[true, false, true, true, true, true, true, true, true, true, false, false, false] (fun s => [(7, Value.pointer (some ⟨s.1, 0, none⟩)), (8, Value.pointer (some ⟨s.2.1, 0, none⟩)), (9, Value.pointer (some ⟨s.2.2, 0, none⟩))]) (fun s w' => w'.cell? ⟨w.heap.size, 6, none⟩ = some (.string v) ∧ Below w1.heap.size w1 w' ∧ w'.heap[s.1]? = some (.cells #[.slice none 0 0] 38 (0, 0)) ∧ w1.heap.size ≤ s.1 ∧ w'.heap[s.2.1]? = some (.cells #[.string ⟨#[]⟩] 9 (0, 0)) ∧ w1.heap.size ≤ s.2.1 ∧ w'.heap[s.2.2]? = some (.cells #[.int .i64 0] 3 (0, 0)) ∧ w1.heap.size ≤ s.2.2) ?_ ?_
            rotate_left
            · intro hJ7_8_9
              refine join_ (σ := (Option Addr × Nat) × Nat) 5 #[true, true, true, true, true, true, true, true, false, false, false, false, false] (fun s => [(25, Value.slice s.1.1 out.length s.1.2), (7, Value.pointer (some ⟨s.2, 0, none⟩))]) (fun s w' => w'.cell? ⟨w.heap.size, 6, none⟩ = some (.string v) ∧ Below w1.heap.size w1 w' ∧ kRn.C w' s.1.1 out.length out ∧ (∀ ad, s.1.1 = some ad → 0 < out.length → Ty w' ad.block 40) ∧ w'.heap[s.2]? = some (.cells #[.slice none 0 0] 38 (0, 0)) ∧ w1.heap.size ≤ s.2) ?_ ?_
              rotate_left
              · intro hJ1_7
                refine join_ (σ := (Option Addr × Nat) × Nat) 5 #[true, true, true, true, true, true, true, false, true, false, false, false, false] (fun s => [(25, Value.slice s.1.1 out.length s.1.2), (8, Value.pointer (some ⟨s.2, 0, none⟩))]) (fun s w' => w'.cell? ⟨w.heap.size, 6, none⟩ = some (.string v) ∧ Below w1.heap.size w1 w' ∧ kRn.C w' s.1.1 out.length out ∧ (∀ ad, s.1.1 = some ad → 0 < out.length → Ty w' ad.block 40) ∧ w'.heap[s.2]? = some (.cells #[.string ⟨#[]⟩] 9 (0, 0)) ∧ w1.heap.size ≤ s.2) ?_ ?_
                rotate_left
                · intro hJ1_8
                  refine join_ (σ := (Option Addr × Nat) × Nat) 5 #[true, true, true, true, true, true, true, false, false, true, false, false, false] (fun s => [(25, Value.slice s.1.1 out.length s.1.2), (9, Value.pointer (some ⟨s.2, 0, none⟩))]) (fun s w' => w'.cell? ⟨w.heap.size, 6, none⟩ = some (.string v) ∧ Below w1.heap.size w1 w' ∧ kRn.C w' s.1.1 out.length out ∧ (∀ ad, s.1.1 = some ad → 0 < out.length → Ty w' ad.block 40) ∧ w'.heap[s.2]? = some (.cells #[.int .i64 0] 3 (0, 0)) ∧ w1.heap.size ≤ s.2) ?_ ?_
                  rotate_left
                  · intro hJ1_9
                    refine join_ (σ := Nat × Nat) 5 #[true, false, true, true, true, true, true, true, true, false, false, false, false] (fun s => [(7, Value.pointer (some ⟨s.1, 0, none⟩)), (8, Value.pointer (some ⟨s.2, 0, none⟩))]) (fun s w' => w'.cell? ⟨w.heap.size, 6, none⟩ = some (.string v) ∧ Below w1.heap.size w1 w' ∧ w'.heap[s.1]? = some (.cells #[.slice none 0 0] 38 (0, 0)) ∧ w1.heap.size ≤ s.1 ∧ w'.heap[s.2]? = some (.cells #[.string ⟨#[]⟩] 9 (0, 0)) ∧ w1.heap.size ≤ s.2) ?_ ?_
                    rotate_left
                    · intro hJ7_8
                      refine join_ (σ := Nat × Nat) 5 #[true, false, true, true, true, true, true, true, false, true, false, false, false] (fun s => [(7, Value.pointer (some ⟨s.1, 0, none⟩)), (9, Value.pointer (some ⟨s.2, 0, none⟩))]) (fun s w' => w'.cell? ⟨w.heap.size, 6, none⟩ = some (.string v) ∧ Below w1.heap.size w1 w' ∧ w'.heap[s.1]? = some (.cells #[.slice none 0 0] 38 (0, 0)) ∧ w1.heap.size ≤ s.1 ∧ w'.heap[s.2]? = some (.cells #[.int .i64 0] 3 (0, 0)) ∧ w1.heap.size ≤ s.2) ?_ ?_
                      rotate_left
                      · intro hJ7_9
                        refine join_ (σ := Nat × Nat) 5 #[true, false, true, true, true, true, true, false, true, true, false, false, false] (fun s => [(8, Value.pointer (some ⟨s.1, 0, none⟩)), (9, Value.pointer (some ⟨s.2, 0, none⟩))]) (fun s w' => w'.cell? ⟨w.heap.size, 6, none⟩ = some (.string v) ∧ Below w1.heap.size w1 w' ∧ w'.heap[s.1]? = some (.cells #[.string ⟨#[]⟩] 9 (0, 0)) ∧ w1.heap.size ≤ s.1 ∧ w'.heap[s.2]? = some (.cells #[.int .i64 0] 3 (0, 0)) ∧ w1.heap.size ≤ s.2) ?_ ?_
                        rotate_left
                        · intro hJ8_9
                          refine join_ (σ := (Option Addr × Nat)) 6 #[true, true, true, true, true, true, true, false, false, false, false, false, false] (fun s => [(25, Value.slice s.1 out.length s.2)]) (fun s w' => w'.cell? ⟨w.heap.size, 6, none⟩ = some (.string v) ∧ Below w1.heap.size w1 w' ∧ kRn.C w' s.1 out.length out ∧ (∀ ad, s.1 = some ad → 0 < out.length → Ty w' ad.block 40)) ?_ ?_
                          rotate_left
                          · intro hJ1
                            refine join_ (σ := Nat) 6 #[true, false, true, true, true, true, true, true, false, false, false, false, false] (fun s => [(7, Value.pointer (some ⟨s, 0, none⟩))]) (fun s w' => w'.cell? ⟨w.heap.size, 6, none⟩ = some (.string v) ∧ Below w1.heap.size w1 w' ∧ w'.heap[s]? = some (.cells #[.slice none 0 0] 38 (0, 0)) ∧ w1.heap.size ≤ s) ?_ ?_
                            rotate_left
                            · intro hJ7
                              refine join_ (σ := Nat) 6 #[true, false, true, true, true, true, true, false, true, false, false, false, false] (fun s => [(8, Value.pointer (some ⟨s, 0, none⟩))]) (fun s w' => w'.cell? ⟨w.heap.size, 6, none⟩ = some (.string v) ∧ Below w1.heap.size w1 w' ∧ w'.heap[s]? = some (.cells #[.string ⟨#[]⟩] 9 (0, 0)) ∧ w1.heap.size ≤ s) ?_ ?_
                              rotate_left
                              · intro hJ8
                                refine join_ (σ := Nat) 6 #[true, false, true, true, true, true, true, false, false, true, false, false, false] (fun s => [(9, Value.pointer (some ⟨s, 0, none⟩))]) (fun s w' => w'.cell? ⟨w.heap.size, 6, none⟩ = some (.string v) ∧ Below w1.heap.size w1 w' ∧ w'.heap[s]? = some (.cells #[.int .i64 0] 3 (0, 0)) ∧ w1.heap.size ≤ s) ?_ ?_
                                rotate_left
                                · intro hJ9
                                  refine four_ (i := 1) (j := 7) (k := 8) (m := 9) (Ni := some 25) (Nj := some 7) (Nk := some 8) (Nm := some 9) #[true, true, true, true, true, true, true, false, false, false, false, false, false] #[true, false, true, true, true, true, true, true, false, false, false, false, false] #[true, false, true, true, true, true, true, false, true, false, false, false, false] #[true, false, true, true, true, true, true, false, false, true, false, false, false] rfl rfl rfl rfl rfl rfl rfl rfl (by kernel_rfl) (by decide) (by decide) (by decide) (by decide) (fun K hK => ?_) (fun K hK => ?_) (fun K hK => ?_) (fun K hK => ?_)
                                  · skip
                                    refine goes_ Tryd.func44 (by kernel_rfl) rfl #[.slice A1 n1 c1] (by rfl) rfl rfl (by simp only [List.map_toArray, List.map_cons, List.map_nil]; rfl) ?_
                                    with_reducible refine (flat_walk rows out _ A1 n1 c1 w1.drew (RowsAt.mod HK.out.1 (S := fun _ => False) (Mod.below hB) (fun _ _ e => e)) HF.out).mono ?_
                                    rintro en w3 ⟨A3, n3, c3, rfl, h1⟩
                                    refine ⟨_, rfl, ?_⟩
                                    obtain rfl := (made_reads h1).1
                                    refine hK.out _ _ ((pw_cell_below h1.bel hHeld)) (fun hHeld => ?_)
                                    clear hK K
                                    refine norm_ (a' := ?_) ?_ ?_
                                    rotate_left
                                    · show Act.put _ (some 25) _ = _
                                      simp only [Act.put, List.setIfInBounds_toArray, List.set_cons_zero, List.set_cons_succ, i64_w, i32_w]
                                      rfl
                                    exact norm_ (by first | (simp only [putAll, Act.put, List.setIfInBounds_toArray, List.set_cons_zero, List.set_cons_succ]; done) | (simp only [putAll, Act.put, List.setIfInBounds_toArray, List.set_cons_zero, List.set_cons_succ]; rfl)) (hJ1 ((A3, c3)) _ ⟨hHeld, hB.trans (h1.bel.mono hB.size), (Kd.R_reads' h1.own).2.2, fun ad q1 _ => own_ty h1.own (k := ad.block) (by have q2 : A3 = some ad := q1; rw [q2]; rfl)⟩)
                                  · skip
                                    refine value_ (w1 := ?_) (v := ?_) (by rfl) rfl ?_ ?_
                                    rotate_left 2
                                    · go_simp
                                      constructor
                                      · rfl
                                      · rfl
                                    refine hK.out _ _ ((keep_alloc _ hHeld)) (fun hHeld => ?_)
                                    clear hK K
                                    refine norm_ (a' := ?_) ?_ ?_
                                    rotate_left
                                    · show Act.put _ (some 7) _ = _
                                      simp only [Act.put, List.setIfInBounds_toArray, List.set_cons_zero, List.set_cons_succ, i64_w, i32_w]
                                      rfl
                                    exact norm_ (by first | (simp only [putAll, Act.put, List.setIfInBounds_toArray, List.set_cons_zero, List.set_cons_succ]; done) | (simp only [putAll, Act.put, List.setIfInBounds_toArray, List.set_cons_zero, List.set_cons_succ]; rfl)) (hJ7 (w1.drew.heap.size) _ ⟨hHeld, hB.alloc hB.size _, heap_alloc_new _ _, hB.size⟩)
                                  · skip
                                    refine value_ (w1 := ?_) (v := ?_) (by rfl) rfl ?_ ?_
                                    rotate_left 2
                                    · go_simp
                                      constructor
                                      · rfl
                                      · rfl
                                    refine hK.out _ _ ((keep_alloc _ hHeld)) (fun hHeld => ?_)
                                    clear hK K
                                    refine norm_ (a' := ?_) ?_ ?_
                                    rotate_left
                                    · show Act.put _ (some 8) _ = _
                                      simp only [Act.put, List.setIfInBounds_toArray, List.set_cons_zero, List.set_cons_succ, i64_w, i32_w]
                                      rfl
                                    exact norm_ (by first | (simp only [putAll, Act.put, List.setIfInBounds_toArray, List.set_cons_zero, List.set_cons_succ]; done) | (simp only [putAll, Act.put, List.setIfInBounds_toArray, List.set_cons_zero, List.set_cons_succ]; rfl)) (hJ8 (w1.drew.heap.size) _ ⟨hHeld, hB.alloc hB.size _, heap_alloc_new _ _, hB.size⟩)
                                  · skip
                                    refine value_ (w1 := ?_) (v := ?_) (by rfl) rfl ?_ ?_
                                    rotate_left 2
                                    · go_simp
                                      constructor
                                      · rfl
                                      · rfl
                                    refine hK.out _ _ ((keep_alloc _ hHeld)) (fun hHeld => ?_)
                                    clear hK K
                                    refine norm_ (a' := ?_) ?_ ?_
                                    rotate_left
                                    · show Act.put _ (some 9) _ = _
                                      simp only [Act.put, List.setIfInBounds_toArray, List.set_cons_zero, List.set_cons_succ, i64_w, i32_w]
                                      rfl
                                    exact norm_ (by first | (simp only [putAll, Act.put, List.setIfInBounds_toArray, List.set_cons_zero, List.set_cons_succ]; done) | (simp only [putAll, Act.put, List.setIfInBounds_toArray, List.set_cons_zero, List.set_cons_succ]; rfl)) (hJ9 (w1.drew.heap.size) _ ⟨hHeld, hB.alloc hB.size _, heap_alloc_new _ _, hB.size⟩)
                                · skip
                                  rintro Nn X ⟨hHeld, hB, h9, b9⟩
                                  try dsimp only at h9 b9
                                  refine norm_ (a' := ?_) ?_ ?_
                                  rotate_left
                                  · simp only [putAll, Act.put, List.setIfInBounds_toArray, List.set_cons_zero, List.set_cons_succ]
                                    rfl
                                  refine three_ (i := 1) (j := 7) (k := 8) (Ni := some 25) (Nj := some 7) (Nk := some 8) #[true, true, true, true, true, true, true, false, false, true, false, false, false] #[true, false, true, true, true, true, true, true, false, true, false, false, false] #[true, false, true, true, true, true, true, false, true, true, false, false, false] rfl rfl rfl rfl rfl rfl (by kernel_rfl) (by decide) (by decide) (by decide) (fun K hK => ?_) (fun K hK => ?_) (fun K hK => ?_)
                                  · skip
                                    refine goes_ Tryd.func44 (by kernel_rfl) rfl #[.slice A1 n1 c1] (by rfl) rfl rfl (by simp only [List.map_toArray, List.map_cons, List.map_nil]; rfl) ?_
                                    with_reducible refine (flat_walk rows out _ A1 n1 c1 X (RowsAt.mod HK.out.1 (S := fun _ => False) (Mod.below hB) (fun _ _ e => e)) HF.out).mono ?_
                                    rintro en w3 ⟨A3, n3, c3, rfl, h1⟩
                                    refine ⟨_, rfl, ?_⟩
                                    obtain rfl := (made_reads h1).1
                                    refine hK.out _ _ ((pw_cell_below h1.bel hHeld)) (fun hHeld => ?_)
                                    clear hK K
                                    refine norm_ (a' := ?_) ?_ ?_
                                    rotate_left
                                    · show Act.put _ (some 25) _ = _
                                      simp only [Act.put, List.setIfInBounds_toArray, List.set_cons_zero, List.set_cons_succ, i64_w, i32_w]
                                      rfl
                                    exact norm_ (by first | (simp only [putAll, Act.put, List.setIfInBounds_toArray, List.set_cons_zero, List.set_cons_succ]; done) | (simp only [putAll, Act.put, List.setIfInBounds_toArray, List.set_cons_zero, List.set_cons_succ]; rfl)) (hJ1_9 ((A3, c3), Nn) _ ⟨hHeld, hB.trans (h1.bel.mono hB.size), (Kd.R_reads' h1.own).2.2, fun ad q1 _ => own_ty h1.own (k := ad.block) (by have q2 : A3 = some ad := q1; rw [q2]; rfl), below_obj h1.bel h9, b9⟩)
                                  · skip
                                    refine value_ (w1 := ?_) (v := ?_) (by rfl) rfl ?_ ?_
                                    rotate_left 2
                                    · go_simp
                                      constructor
                                      · rfl
                                      · rfl
                                    refine hK.out _ _ ((keep_alloc _ hHeld)) (fun hHeld => ?_)
                                    clear hK K
                                    refine norm_ (a' := ?_) ?_ ?_
                                    rotate_left
                                    · show Act.put _ (some 7) _ = _
                                      simp only [Act.put, List.setIfInBounds_toArray, List.set_cons_zero, List.set_cons_succ, i64_w, i32_w]
                                      rfl
                                    exact norm_ (by first | (simp only [putAll, Act.put, List.setIfInBounds_toArray, List.set_cons_zero, List.set_cons_succ]; done) | (simp only [putAll, Act.put, List.setIfInBounds_toArray, List.set_cons_zero, List.set_cons_succ]; rfl)) (hJ7_9 (X.heap.size, Nn) _ ⟨hHeld, hB.alloc hB.size _, heap_alloc_new _ _, hB.size, below_obj (below_a _ _) h9, b9⟩)
                                  · skip
                                    refine value_ (w1 := ?_) (v := ?_) (by rfl) rfl ?_ ?_
                                    rotate_left 2
                                    · go_simp
                                      constructor
                                      · rfl
                                      · rfl
                                    refine hK.out _ _ ((keep_alloc _ hHeld)) (fun hHeld => ?_)
                                    clear hK K
                                    refine norm_ (a' := ?_) ?_ ?_
                                    rotate_left
                                    · show Act.put _ (some 8) _ = _
                                      simp only [Act.put, List.setIfInBounds_toArray, List.set_cons_zero, List.set_cons_succ, i64_w, i32_w]
                                      rfl
                                    exact norm_ (by first | (simp only [putAll, Act.put, List.setIfInBounds_toArray, List.set_cons_zero, List.set_cons_succ]; done) | (simp only [putAll, Act.put, List.setIfInBounds_toArray, List.set_cons_zero, List.set_cons_succ]; rfl)) (hJ8_9 (X.heap.size, Nn) _ ⟨hHeld, hB.alloc hB.size _, heap_alloc_new _ _, hB.size, below_obj (below_a _ _) h9, b9⟩)
                              · skip
                                rintro Ns X ⟨hHeld, hB, h8, b8⟩
                                try dsimp only at h8 b8
                                refine norm_ (a' := ?_) ?_ ?_
                                rotate_left
                                · simp only [putAll, Act.put, List.setIfInBounds_toArray, List.set_cons_zero, List.set_cons_succ]
                                  rfl
                                refine three_ (i := 1) (j := 7) (k := 9) (Ni := some 25) (Nj := some 7) (Nk := some 9) #[true, true, true, true, true, true, true, false, true, false, false, false, false] #[true, false, true, true, true, true, true, true, true, false, false, false, false] #[true, false, true, true, true, true, true, false, true, true, false, false, false] rfl rfl rfl rfl rfl rfl (by kernel_rfl) (by decide) (by decide) (by decide) (fun K hK => ?_) (fun K hK => ?_) (fun K hK => ?_)
                                · skip
                                  refine goes_ Tryd.func44 (by kernel_rfl) rfl #[.slice A1 n1 c1] (by rfl) rfl rfl (by simp only [List.map_toArray, List.map_cons, List.map_nil]; rfl) ?_
                                  with_reducible refine (flat_walk rows out _ A1 n1 c1 X (RowsAt.mod HK.out.1 (S := fun _ => False) (Mod.below hB) (fun _ _ e => e)) HF.out).mono ?_
                                  rintro en w3 ⟨A3, n3, c3, rfl, h1⟩
                                  refine ⟨_, rfl, ?_⟩
                                  obtain rfl := (made_reads h1).1
                                  refine hK.out _ _ ((pw_cell_below h1.bel hHeld)) (fun hHeld => ?_)
                                  clear hK K
                                  refine norm_ (a' := ?_) ?_ ?_
                                  rotate_left
                                  · show Act.put _ (some 25) _ = _
                                    simp only [Act.put, List.setIfInBounds_toArray, List.set_cons_zero, List.set_cons_succ, i64_w, i32_w]
                                    rfl
                                  exact norm_ (by first | (simp only [putAll, Act.put, List.setIfInBounds_toArray, List.set_cons_zero, List.set_cons_succ]; done) | (simp only [putAll, Act.put, List.setIfInBounds_toArray, List.set_cons_zero, List.set_cons_succ]; rfl)) (hJ1_8 ((A3, c3), Ns) _ ⟨hHeld, hB.trans (h1.bel.mono hB.size), (Kd.R_reads' h1.own).2.2, fun ad q1 _ => own_ty h1.own (k := ad.block) (by have q2 : A3 = some ad := q1; rw [q2]; rfl), below_obj h1.bel h8, b8⟩)
                                · skip
                                  refine value_ (w1 := ?_) (v := ?_) (by rfl) rfl ?_ ?_
                                  rotate_left 2
                                  · go_simp
                                    constructor
                                    · rfl
                                    · rfl
                                  refine hK.out _ _ ((keep_alloc _ hHeld)) (fun hHeld => ?_)
                                  clear hK K
                                  refine norm_ (a' := ?_) ?_ ?_
                                  rotate_left
                                  · show Act.put _ (some 7) _ = _
                                    simp only [Act.put, List.setIfInBounds_toArray, List.set_cons_zero, List.set_cons_succ, i64_w, i32_w]
                                    rfl
                                  exact norm_ (by first | (simp only [putAll, Act.put, List.setIfInBounds_toArray, List.set_cons_zero, List.set_cons_succ]; done) | (simp only [putAll, Act.put, List.setIfInBounds_toArray, List.set_cons_zero, List.set_cons_succ]; rfl)) (hJ7_8 (X.heap.size, Ns) _ ⟨hHeld, hB.alloc hB.size _, heap_alloc_new _ _, hB.size, below_obj (below_a _ _) h8, b8⟩)
                                · skip
                                  refine value_ (w1 := ?_) (v := ?_) (by rfl) rfl ?_ ?_
                                  rotate_left 2
                                  · go_simp
                                    constructor
                                    · rfl
                                    · rfl
                                  refine hK.out _ _ ((keep_alloc _ hHeld)) (fun hHeld => ?_)
                                  clear hK K
                                  refine norm_ (a' := ?_) ?_ ?_
                                  rotate_left
                                  · show Act.put _ (some 9) _ = _
                                    simp only [Act.put, List.setIfInBounds_toArray, List.set_cons_zero, List.set_cons_succ, i64_w, i32_w]
                                    rfl
                                  exact norm_ (by first | (simp only [putAll, Act.put, List.setIfInBounds_toArray, List.set_cons_zero, List.set_cons_succ]; done) | (simp only [putAll, Act.put, List.setIfInBounds_toArray, List.set_cons_zero, List.set_cons_succ]; rfl)) (hJ8_9 (Ns, X.heap.size) _ ⟨hHeld, hB.alloc hB.size _, below_obj (below_a _ _) h8, b8, heap_alloc_new _ _, hB.size⟩)
                            · skip
                              rintro Np X ⟨hHeld, hB, h7, b7⟩
                              try dsimp only at h7 b7
                              refine norm_ (a' := ?_) ?_ ?_
                              rotate_left
                              · simp only [putAll, Act.put, List.setIfInBounds_toArray, List.set_cons_zero, List.set_cons_succ]
                                rfl
                              refine three_ (i := 1) (j := 8) (k := 9) (Ni := some 25) (Nj := some 8) (Nk := some 9) #[true, true, true, true, true, true, true, true, false, false, false, false, false] #[true, false, true, true, true, true, true, true, true, false, false, false, false] #[true, false, true, true, true, true, true, true, false, true, false, false, false] rfl rfl rfl rfl rfl rfl (by kernel_rfl) (by decide) (by decide) (by decide) (fun K hK => ?_) (fun K hK => ?_) (fun K hK => ?_)
                              · skip
                                refine goes_ Tryd.func44 (by kernel_rfl) rfl #[.slice A1 n1 c1] (by rfl) rfl rfl (by simp only [List.map_toArray, List.map_cons, List.map_nil]; rfl) ?_
                                with_reducible refine (flat_walk rows out _ A1 n1 c1 X (RowsAt.mod HK.out.1 (S := fun _ => False) (Mod.below hB) (fun _ _ e => e)) HF.out).mono ?_
                                rintro en w3 ⟨A3, n3, c3, rfl, h1⟩
                                refine ⟨_, rfl, ?_⟩
                                obtain rfl := (made_reads h1).1
                                refine hK.out _ _ ((pw_cell_below h1.bel hHeld)) (fun hHeld => ?_)
                                clear hK K
                                refine norm_ (a' := ?_) ?_ ?_
                                rotate_left
                                · show Act.put _ (some 25) _ = _
                                  simp only [Act.put, List.setIfInBounds_toArray, List.set_cons_zero, List.set_cons_succ, i64_w, i32_w]
                                  rfl
                                exact norm_ (by first | (simp only [putAll, Act.put, List.setIfInBounds_toArray, List.set_cons_zero, List.set_cons_succ]; done) | (simp only [putAll, Act.put, List.setIfInBounds_toArray, List.set_cons_zero, List.set_cons_succ]; rfl)) (hJ1_7 ((A3, c3), Np) _ ⟨hHeld, hB.trans (h1.bel.mono hB.size), (Kd.R_reads' h1.own).2.2, fun ad q1 _ => own_ty h1.own (k := ad.block) (by have q2 : A3 = some ad := q1; rw [q2]; rfl), below_obj h1.bel h7, b7⟩)
                              · skip
                                refine value_ (w1 := ?_) (v := ?_) (by rfl) rfl ?_ ?_
                                rotate_left 2
                                · go_simp
                                  constructor
                                  · rfl
                                  · rfl
                                refine hK.out _ _ ((keep_alloc _ hHeld)) (fun hHeld => ?_)
                                clear hK K
                                refine norm_ (a' := ?_) ?_ ?_
                                rotate_left
                                · show Act.put _ (some 8) _ = _
                                  simp only [Act.put, List.setIfInBounds_toArray, List.set_cons_zero, List.set_cons_succ, i64_w, i32_w]
                                  rfl
                                exact norm_ (by first | (simp only [putAll, Act.put, List.setIfInBounds_toArray, List.set_cons_zero, List.set_cons_succ]; done) | (simp only [putAll, Act.put, List.setIfInBounds_toArray, List.set_cons_zero, List.set_cons_succ]; rfl)) (hJ7_8 (Np, X.heap.size) _ ⟨hHeld, hB.alloc hB.size _, below_obj (below_a _ _) h7, b7, heap_alloc_new _ _, hB.size⟩)
                              · skip
                                refine value_ (w1 := ?_) (v := ?_) (by rfl) rfl ?_ ?_
                                rotate_left 2
                                · go_simp
                                  constructor
                                  · rfl
                                  · rfl
                                refine hK.out _ _ ((keep_alloc _ hHeld)) (fun hHeld => ?_)
                                clear hK K
                                refine norm_ (a' := ?_) ?_ ?_
                                rotate_left
                                · show Act.put _ (some 9) _ = _
                                  simp only [Act.put, List.setIfInBounds_toArray, List.set_cons_zero, List.set_cons_succ, i64_w, i32_w]
                                  rfl
                                exact norm_ (by first | (simp only [putAll, Act.put, List.setIfInBounds_toArray, List.set_cons_zero, List.set_cons_succ]; done) | (simp only [putAll, Act.put, List.setIfInBounds_toArray, List.set_cons_zero, List.set_cons_succ]; rfl)) (hJ7_9 (Np, X.heap.size) _ ⟨hHeld, hB.alloc hB.size _, below_obj (below_a _ _) h7, b7, heap_alloc_new _ _, hB.size⟩)
                          · skip
                            rintro ⟨A3, c3⟩ X ⟨hHeld, hB, hr, hT⟩
                            try dsimp only at hr hT
                            refine norm_ (a' := ?_) ?_ ?_
                            rotate_left
                            · simp only [putAll, Act.put, List.setIfInBounds_toArray, List.set_cons_zero, List.set_cons_succ]
                              rfl
                            refine three_ (i := 7) (j := 8) (k := 9) (Ni := some 7) (Nj := some 8) (Nk := some 9) #[true, true, true, true, true, true, true, true, false, false, false, false, false] #[true, true, true, true, true, true, true, false, true, false, false, false, false] #[true, true, true, true, true, true, true, false, false, true, false, false, false] rfl rfl rfl rfl rfl rfl (by kernel_rfl) (by decide) (by decide) (by decide) (fun K hK => ?_) (fun K hK => ?_) (fun K hK => ?_)
                            · skip
                              refine value_ (w1 := ?_) (v := ?_) (by rfl) rfl ?_ ?_
                              rotate_left 2
                              · go_simp
                                constructor
                                · rfl
                                · rfl
                              refine hK.out _ _ ((keep_alloc _ hHeld)) (fun hHeld => ?_)
                              clear hK K
                              refine norm_ (a' := ?_) ?_ ?_
                              rotate_left
                              · show Act.put _ (some 7) _ = _
                                simp only [Act.put, List.setIfInBounds_toArray, List.set_cons_zero, List.set_cons_succ, i64_w, i32_w]
                                rfl
                              exact norm_ (by first | (simp only [putAll, Act.put, List.setIfInBounds_toArray, List.set_cons_zero, List.set_cons_succ]; done) | (simp only [putAll, Act.put, List.setIfInBounds_toArray, List.set_cons_zero, List.set_cons_succ]; rfl)) (hJ1_7 ((A3, c3), X.heap.size) _ ⟨hHeld, hB.alloc hB.size _, rn_C hr (S := fun _ => False) (Mod.below (below_a _ _)) (fun _ _ _ e => e), fun ad e1 e2 => (hT ad e1 e2).mod (S := fun _ => False) (Mod.below (below_a _ _)) (fun e => e), heap_alloc_new _ _, hB.size⟩)
                            · skip
                              refine value_ (w1 := ?_) (v := ?_) (by rfl) rfl ?_ ?_
                              rotate_left 2
                              · go_simp
                                constructor
                                · rfl
                                · rfl
                              refine hK.out _ _ ((keep_alloc _ hHeld)) (fun hHeld => ?_)
                              clear hK K
                              refine norm_ (a' := ?_) ?_ ?_
                              rotate_left
                              · show Act.put _ (some 8) _ = _
                                simp only [Act.put, List.setIfInBounds_toArray, List.set_cons_zero, List.set_cons_succ, i64_w, i32_w]
                                rfl
                              exact norm_ (by first | (simp only [putAll, Act.put, List.setIfInBounds_toArray, List.set_cons_zero, List.set_cons_succ]; done) | (simp only [putAll, Act.put, List.setIfInBounds_toArray, List.set_cons_zero, List.set_cons_succ]; rfl)) (hJ1_8 ((A3, c3), X.heap.size) _ ⟨hHeld, hB.alloc hB.size _, rn_C hr (S := fun _ => False) (Mod.below (below_a _ _)) (fun _ _ _ e => e), fun ad e1 e2 => (hT ad e1 e2).mod (S := fun _ => False) (Mod.below (below_a _ _)) (fun e => e), heap_alloc_new _ _, hB.size⟩)
                            · skip
                              refine value_ (w1 := ?_) (v := ?_) (by rfl) rfl ?_ ?_
                              rotate_left 2
                              · go_simp
                                constructor
                                · rfl
                                · rfl
                              refine hK.out _ _ ((keep_alloc _ hHeld)) (fun hHeld => ?_)
                              clear hK K
                              refine norm_ (a' := ?_) ?_ ?_
                              rotate_left
                              · show Act.put _ (some 9) _ = _
                                simp only [Act.put, List.setIfInBounds_toArray, List.set_cons_zero, List.set_cons_succ, i64_w, i32_w]
                                rfl
                              exact norm_ (by first | (simp only [putAll, Act.put, List.setIfInBounds_toArray, List.set_cons_zero, List.set_cons_succ]; done) | (simp only [putAll, Act.put, List.setIfInBounds_toArray, List.set_cons_zero, List.set_cons_succ]; rfl)) (hJ1_9 ((A3, c3), X.heap.size) _ ⟨hHeld, hB.alloc hB.size _, rn_C hr (S := fun _ => False) (Mod.below (below_a _ _)) (fun _ _ _ e => e), fun ad e1 e2 => (hT ad e1 e2).mod (S := fun _ => False) (Mod.below (below_a _ _)) (fun e => e), heap_alloc_new _ _, hB.size⟩)
                        · skip
                          rintro ⟨Ns, Nn⟩ X ⟨hHeld, hB, h8, b8, h9, b9⟩
                          try dsimp only at h8 b8 h9 b9
                          refine norm_ (a' := ?_) ?_ ?_
                          rotate_left
                          · simp only [putAll, Act.put, List.setIfInBounds_toArray, List.set_cons_zero, List.set_cons_succ]
                            rfl
                          refine two_ (i := 1) (j := 7) (Ni := some 25) (Nj := some 7) #[true, true, true, true, true, true, true, false, true, true, false, false, false] #[true, false, true, true, true, true, true, true, true, true, false, false, false] rfl rfl rfl rfl (by kernel_rfl) (by decide) (by decide) (fun K hK => ?_) (fun K hK => ?_)
                          · skip
                            refine goes_ Tryd.func44 (by kernel_rfl) rfl #[.slice A1 n1 c1] (by rfl) rfl rfl (by simp only [List.map_toArray, List.map_cons, List.map_nil]; rfl) ?_
                            with_reducible refine (flat_walk rows out _ A1 n1 c1 X (RowsAt.mod HK.out.1 (S := fun _ => False) (Mod.below hB) (fun _ _ e => e)) HF.out).mono ?_
                            rintro en w3 ⟨A3, n3, c3, rfl, h1⟩
                            refine ⟨_, rfl, ?_⟩
                            obtain rfl := (made_reads h1).1
                            refine hK.out _ _ ((pw_cell_below h1.bel hHeld)) (fun hHeld => ?_)
                            clear hK K
                            refine norm_ (a' := ?_) ?_ ?_
                            rotate_left
                            · show Act.put _ (some 25) _ = _
                              simp only [Act.put, List.setIfInBounds_toArray, List.set_cons_zero, List.set_cons_succ, i64_w, i32_w]
                              rfl
                            exact norm_ (by first | (simp only [putAll, Act.put, List.setIfInBounds_toArray, List.set_cons_zero, List.set_cons_succ]; done) | (simp only [putAll, Act.put, List.setIfInBounds_toArray, List.set_cons_zero, List.set_cons_succ]; rfl)) (hJ1_8_9 ((A3, c3), Ns, Nn) _ ⟨hHeld, hB.trans (h1.bel.mono hB.size), (Kd.R_reads' h1.own).2.2, fun ad q1 _ => own_ty h1.own (k := ad.block) (by have q2 : A3 = some ad := q1; rw [q2]; rfl), below_obj h1.bel h8, b8, below_obj h1.bel h9, b9⟩)
                          · skip
                            refine value_ (w1 := ?_) (v := ?_) (by rfl) rfl ?_ ?_
                            rotate_left 2
                            · go_simp
                              constructor
                              · rfl
                              · rfl
                            refine hK.out _ _ ((keep_alloc _ hHeld)) (fun hHeld => ?_)
                            clear hK K
                            refine norm_ (a' := ?_) ?_ ?_
                            rotate_left
                            · show Act.put _ (some 7) _ = _
                              simp only [Act.put, List.setIfInBounds_toArray, List.set_cons_zero, List.set_cons_succ, i64_w, i32_w]
                              rfl
                            exact norm_ (by first | (simp only [putAll, Act.put, List.setIfInBounds_toArray, List.set_cons_zero, List.set_cons_succ]; done) | (simp only [putAll, Act.put, List.setIfInBounds_toArray, List.set_cons_zero, List.set_cons_succ]; rfl)) (hJ7_8_9 (X.heap.size, Ns, Nn) _ ⟨hHeld, hB.alloc hB.size _, heap_alloc_new _ _, hB.size, below_obj (below_a _ _) h8, b8, below_obj (below_a _ _) h9, b9⟩)
                      · skip
                        rintro ⟨Np, Nn⟩ X ⟨hHeld, hB, h7, b7, h9, b9⟩
                        try dsimp only at h7 b7 h9 b9
                        refine norm_ (a' := ?_) ?_ ?_
                        rotate_left
                        · simp only [putAll, Act.put, List.setIfInBounds_toArray, List.set_cons_zero, List.set_cons_succ]
                          rfl
                        refine two_ (i := 1) (j := 8) (Ni := some 25) (Nj := some 8) #[true, true, true, true, true, true, true, true, false, true, false, false, false] #[true, false, true, true, true, true, true, true, true, true, false, false, false] rfl rfl rfl rfl (by kernel_rfl) (by decide) (by decide) (fun K hK => ?_) (fun K hK => ?_)
                        · skip
                          refine goes_ Tryd.func44 (by kernel_rfl) rfl #[.slice A1 n1 c1] (by rfl) rfl rfl (by simp only [List.map_toArray, List.map_cons, List.map_nil]; rfl) ?_
                          with_reducible refine (flat_walk rows out _ A1 n1 c1 X (RowsAt.mod HK.out.1 (S := fun _ => False) (Mod.below hB) (fun _ _ e => e)) HF.out).mono ?_
                          rintro en w3 ⟨A3, n3, c3, rfl, h1⟩
                          refine ⟨_, rfl, ?_⟩
                          obtain rfl := (made_reads h1).1
                          refine hK.out _ _ ((pw_cell_below h1.bel hHeld)) (fun hHeld => ?_)
                          clear hK K
                          refine norm_ (a' := ?_) ?_ ?_
                          rotate_left
                          · show Act.put _ (some 25) _ = _
                            simp only [Act.put, List.setIfInBounds_toArray, List.set_cons_zero, List.set_cons_succ, i64_w, i32_w]
                            rfl
                          exact norm_ (by first | (simp only [putAll, Act.put, List.setIfInBounds_toArray, List.set_cons_zero, List.set_cons_succ]; done) | (simp only [putAll, Act.put, List.setIfInBounds_toArray, List.set_cons_zero, List.set_cons_succ]; rfl)) (hJ1_7_9 ((A3, c3), Np, Nn) _ ⟨hHeld, hB.trans (h1.bel.mono hB.size), (Kd.R_reads' h1.own).2.2, fun ad q1 _ => own_ty h1.own (k := ad.block) (by have q2 : A3 = some ad := q1; rw [q2]; rfl), below_obj h1.bel h7, b7, below_obj h1.bel h9, b9⟩)
                        · skip
                          refine value_ (w1 := ?_) (v := ?_) (by rfl) rfl ?_ ?_
                          rotate_left 2
                          · go_simp
                            constructor
                            · rfl
                            · rfl
                          refine hK.out _ _ ((keep_alloc _ hHeld)) (fun hHeld => ?_)
                          clear hK K
                          refine norm_ (a' := ?_) ?_ ?_
                          rotate_left
                          · show Act.put _ (some 8) _ = _
                            simp only [Act.put, List.setIfInBounds_toArray, List.set_cons_zero, List.set_cons_succ, i64_w, i32_w]
                            rfl
                          exact norm_ (by first | (simp only [putAll, Act.put, List.setIfInBounds_toArray, List.set_cons_zero, List.set_cons_succ]; done) | (simp only [putAll, Act.put, List.setIfInBounds_toArray, List.set_cons_zero, List.set_cons_succ]; rfl)) (hJ7_8_9 (Np, X.heap.size, Nn) _ ⟨hHeld, hB.alloc hB.size _, below_obj (below_a _ _) h7, b7, heap_alloc_new _ _, hB.size, below_obj (below_a _ _) h9, b9⟩)
                    · skip
                      rintro ⟨Np, Ns⟩ X ⟨hHeld, hB, h7, b7, h8, b8⟩
                      try dsimp only at h7 b7 h8 b8
                      refine norm_ (a' := ?_) ?_ ?_
                      rotate_left
                      · simp only [putAll, Act.put, List.setIfInBounds_toArray, List.set_cons_zero, List.set_cons_succ]
                        rfl
                      refine two_ (i := 1) (j := 9) (Ni := some 25) (Nj := some 9) #[true, true, true, true, true, true, true, true, true, false, false, false, false] #[true, false, true, true, true, true, true, true, true, true, false, false, false] rfl rfl rfl rfl (by kernel_rfl) (by decide) (by decide) (fun K hK => ?_) (fun K hK => ?_)
                      · skip
                        refine goes_ Tryd.func44 (by kernel_rfl) rfl #[.slice A1 n1 c1] (by rfl) rfl rfl (by simp only [List.map_toArray, List.map_cons, List.map_nil]; rfl) ?_
                        with_reducible refine (flat_walk rows out _ A1 n1 c1 X (RowsAt.mod HK.out.1 (S := fun _ => False) (Mod.below hB) (fun _ _ e => e)) HF.out).mono ?_
                        rintro en w3 ⟨A3, n3, c3, rfl, h1⟩
                        refine ⟨_, rfl, ?_⟩
                        obtain rfl := (made_reads h1).1
                        refine hK.out _ _ ((pw_cell_below h1.bel hHeld)) (fun hHeld => ?_)
                        clear hK K
                        refine norm_ (a' := ?_) ?_ ?_
                        rotate_left
                        · show Act.put _ (some 25) _ = _
                          simp only [Act.put, List.setIfInBounds_toArray, List.set_cons_zero, List.set_cons_succ, i64_w, i32_w]
                          rfl
                        exact norm_ (by first | (simp only [putAll, Act.put, List.setIfInBounds_toArray, List.set_cons_zero, List.set_cons_succ]; done) | (simp only [putAll, Act.put, List.setIfInBounds_toArray, List.set_cons_zero, List.set_cons_succ]; rfl)) (hJ1_7_8 ((A3, c3), Np, Ns) _ ⟨hHeld, hB.trans (h1.bel.mono hB.size), (Kd.R_reads' h1.own).2.2, fun ad q1 _ => own_ty h1.own (k := ad.block) (by have q2 : A3 = some ad := q1; rw [q2]; rfl), below_obj h1.bel h7, b7, below_obj h1.bel h8, b8⟩)
                      · skip
                        refine value_ (w1 := ?_) (v := ?_) (by rfl) rfl ?_ ?_
                        rotate_left 2
                        · go_simp
                          constructor
                          · rfl
                          · rfl
                        refine hK.out _ _ ((keep_alloc _ hHeld)) (fun hHeld => ?_)
                        clear hK K
                        refine norm_ (a' := ?_) ?_ ?_
                        rotate_left
                        · show Act.put _ (some 9) _ = _
                          simp only [Act.put, List.setIfInBounds_toArray, List.set_cons_zero, List.set_cons_succ, i64_w, i32_w]
                          rfl
                        exact norm_ (by first | (simp only [putAll, Act.put, List.setIfInBounds_toArray, List.set_cons_zero, List.set_cons_succ]; done) | (simp only [putAll, Act.put, List.setIfInBounds_toArray, List.set_cons_zero, List.set_cons_succ]; rfl)) (hJ7_8_9 (Np, Ns, X.heap.size) _ ⟨hHeld, hB.alloc hB.size _, below_obj (below_a _ _) h7, b7, below_obj (below_a _ _) h8, b8, heap_alloc_new _ _, hB.size⟩)
                  · skip
                    rintro ⟨⟨A3, c3⟩, Nn⟩ X ⟨hHeld, hB, hr, hT, h9, b9⟩
                    try dsimp only at hr hT h9 b9
                    refine norm_ (a' := ?_) ?_ ?_
                    rotate_left
                    · simp only [putAll, Act.put, List.setIfInBounds_toArray, List.set_cons_zero, List.set_cons_succ]
                      rfl
                    refine two_ (i := 7) (j := 8) (Ni := some 7) (Nj := some 8) #[true, true, true, true, true, true, true, true, false, true, false, false, false] #[true, true, true, true, true, true, true, false, true, true, false, false, false] rfl rfl rfl rfl (by kernel_rfl) (by decide) (by decide) (fun K hK => ?_) (fun K hK => ?_)
                    · skip
                      refine value_ (w1 := ?_) (v := ?_) (by rfl) rfl ?_ ?_
                      rotate_left 2
                      · go_simp
                        constructor
                        · rfl
                        · rfl
                      refine hK.out _ _ ((keep_alloc _ hHeld)) (fun hHeld => ?_)
                      clear hK K
                      refine norm_ (a' := ?_) ?_ ?_
                      rotate_left
                      · show Act.put _ (some 7) _ = _
                        simp only [Act.put, List.setIfInBounds_toArray, List.set_cons_zero, List.set_cons_succ, i64_w, i32_w]
                        rfl
                      exact norm_ (by first | (simp only [putAll, Act.put, List.setIfInBounds_toArray, List.set_cons_zero, List.set_cons_succ]; done) | (simp only [putAll, Act.put, List.setIfInBounds_toArray, List.set_cons_zero, List.set_cons_succ]; rfl)) (hJ1_7_9 ((A3, c3), X.heap.size, Nn) _ ⟨hHeld, hB.alloc hB.size _, rn_C hr (S := fun _ => False) (Mod.below (below_a _ _)) (fun _ _ _ e => e), fun ad e1 e2 => (hT ad e1 e2).mod (S := fun _ => False) (Mod.below (below_a _ _)) (fun e => e), heap_alloc_new _ _, hB.size, below_obj (below_a _ _) h9, b9⟩)
                    · skip
                      refine value_ (w1 := ?_) (v := ?_) (by rfl) rfl ?_ ?_
                      rotate_left 2
                      · go_simp
                        constructor
                        · rfl
                        · rfl
                      refine hK.out _ _ ((keep_alloc _ hHeld)) (fun hHeld => ?_)
                      clear hK K
                      refine norm_ (a' := ?_) ?_ ?_
                      rotate_left
                      · show Act.put _ (some 8) _ = _
                        simp only [Act.put, List.setIfInBounds_toArray, List.set_cons_zero, List.set_cons_succ, i64_w, i32_w]
                        rfl
                      exact norm_ (by first | (simp only [putAll, Act.put, List.setIfInBounds_toArray, List.set_cons_zero, List.set_cons_succ]; done) | (simp only [putAll, Act.put, List.setIfInBounds_toArray, List.set_cons_zero, List.set_cons_succ]; rfl)) (hJ1_8_9 ((A3, c3), X.heap.size, Nn) _ ⟨hHeld, hB.alloc hB.size _, rn_C hr (S := fun _ => False) (Mod.below (below_a _ _)) (fun _ _ _ e => e), fun ad e1 e2 => (hT ad e1 e2).mod (S := fun _ => False) (Mod.below (below_a _ _)) (fun e => e), heap_alloc_new _ _, hB.size, below_obj (below_a _ _) h9, b9⟩)
                · skip
                  rintro ⟨⟨A3, c3⟩, Ns⟩ X ⟨hHeld, hB, hr, hT, h8, b8⟩
                  try dsimp only at hr hT h8 b8
                  refine norm_ (a' := ?_) ?_ ?_
                  rotate_left
                  · simp only [putAll, Act.put, List.setIfInBounds_toArray, List.set_cons_zero, List.set_cons_succ]
                    rfl
                  refine two_ (i := 7) (j := 9) (Ni := some 7) (Nj := some 9) #[true, true, true, true, true, true, true, true, true, false, false, false, false] #[true, true, true, true, true, true, true, false, true, true, false, false, false] rfl rfl rfl rfl (by kernel_rfl) (by decide) (by decide) (fun K hK => ?_) (fun K hK => ?_)
                  · skip
                    refine value_ (w1 := ?_) (v := ?_) (by rfl) rfl ?_ ?_
                    rotate_left 2
                    · go_simp
                      constructor
                      · rfl
                      · rfl
                    refine hK.out _ _ ((keep_alloc _ hHeld)) (fun hHeld => ?_)
                    clear hK K
                    refine norm_ (a' := ?_) ?_ ?_
                    rotate_left
                    · show Act.put _ (some 7) _ = _
                      simp only [Act.put, List.setIfInBounds_toArray, List.set_cons_zero, List.set_cons_succ, i64_w, i32_w]
                      rfl
                    exact norm_ (by first | (simp only [putAll, Act.put, List.setIfInBounds_toArray, List.set_cons_zero, List.set_cons_succ]; done) | (simp only [putAll, Act.put, List.setIfInBounds_toArray, List.set_cons_zero, List.set_cons_succ]; rfl)) (hJ1_7_8 ((A3, c3), X.heap.size, Ns) _ ⟨hHeld, hB.alloc hB.size _, rn_C hr (S := fun _ => False) (Mod.below (below_a _ _)) (fun _ _ _ e => e), fun ad e1 e2 => (hT ad e1 e2).mod (S := fun _ => False) (Mod.below (below_a _ _)) (fun e => e), heap_alloc_new _ _, hB.size, below_obj (below_a _ _) h8, b8⟩)
                  · skip
                    refine value_ (w1 := ?_) (v := ?_) (by rfl) rfl ?_ ?_
                    rotate_left 2
                    · go_simp
                      constructor
                      · rfl
                      · rfl
                    refine hK.out _ _ ((keep_alloc _ hHeld)) (fun hHeld => ?_)
                    clear hK K
                    refine norm_ (a' := ?_) ?_ ?_
                    rotate_left
                    · show Act.put _ (some 9) _ = _
                      simp only [Act.put, List.setIfInBounds_toArray, List.set_cons_zero, List.set_cons_succ, i64_w, i32_w]
                      rfl
                    exact norm_ (by first | (simp only [putAll, Act.put, List.setIfInBounds_toArray, List.set_cons_zero, List.set_cons_succ]; done) | (simp only [putAll, Act.put, List.setIfInBounds_toArray, List.set_cons_zero, List.set_cons_succ]; rfl)) (hJ1_8_9 ((A3, c3), Ns, X.heap.size) _ ⟨hHeld, hB.alloc hB.size _, rn_C hr (S := fun _ => False) (Mod.below (below_a _ _)) (fun _ _ _ e => e), fun ad e1 e2 => (hT ad e1 e2).mod (S := fun _ => False) (Mod.below (below_a _ _)) (fun e => e), below_obj (below_a _ _) h8, b8, heap_alloc_new _ _, hB.size⟩)
              · skip
                rintro ⟨⟨A3, c3⟩, Np⟩ X ⟨hHeld, hB, hr, hT, h7, b7⟩
                try dsimp only at hr hT h7 b7
                refine norm_ (a' := ?_) ?_ ?_
                rotate_left
                · simp only [putAll, Act.put, List.setIfInBounds_toArray, List.set_cons_zero, List.set_cons_succ]
                  rfl
                refine two_ (i := 8) (j := 9) (Ni := some 8) (Nj := some 9) #[true, true, true, true, true, true, true, true, true, false, false, false, false] #[true, true, true, true, true, true, true, true, false, true, false, false, false] rfl rfl rfl rfl (by kernel_rfl) (by decide) (by decide) (fun K hK => ?_) (fun K hK => ?_)
                · skip
                  refine value_ (w1 := ?_) (v := ?_) (by rfl) rfl ?_ ?_
                  rotate_left 2
                  · go_simp
                    constructor
                    · rfl
                    · rfl
                  refine hK.out _ _ ((keep_alloc _ hHeld)) (fun hHeld => ?_)
                  clear hK K
                  refine norm_ (a' := ?_) ?_ ?_
                  rotate_left
                  · show Act.put _ (some 8) _ = _
                    simp only [Act.put, List.setIfInBounds_toArray, List.set_cons_zero, List.set_cons_succ, i64_w, i32_w]
                    rfl
                  exact norm_ (by first | (simp only [putAll, Act.put, List.setIfInBounds_toArray, List.set_cons_zero, List.set_cons_succ]; done) | (simp only [putAll, Act.put, List.setIfInBounds_toArray, List.set_cons_zero, List.set_cons_succ]; rfl)) (hJ1_7_8 ((A3, c3), Np, X.heap.size) _ ⟨hHeld, hB.alloc hB.size _, rn_C hr (S := fun _ => False) (Mod.below (below_a _ _)) (fun _ _ _ e => e), fun ad e1 e2 => (hT ad e1 e2).mod (S := fun _ => False) (Mod.below (below_a _ _)) (fun e => e), below_obj (below_a _ _) h7, b7, heap_alloc_new _ _, hB.size⟩)
                · skip
                  refine value_ (w1 := ?_) (v := ?_) (by rfl) rfl ?_ ?_
                  rotate_left 2
                  · go_simp
                    constructor
                    · rfl
                    · rfl
                  refine hK.out _ _ ((keep_alloc _ hHeld)) (fun hHeld => ?_)
                  clear hK K
                  refine norm_ (a' := ?_) ?_ ?_
                  rotate_left
                  · show Act.put _ (some 9) _ = _
                    simp only [Act.put, List.setIfInBounds_toArray, List.set_cons_zero, List.set_cons_succ, i64_w, i32_w]
                    rfl
                  exact norm_ (by first | (simp only [putAll, Act.put, List.setIfInBounds_toArray, List.set_cons_zero, List.set_cons_succ]; done) | (simp only [putAll, Act.put, List.setIfInBounds_toArray, List.set_cons_zero, List.set_cons_succ]; rfl)) (hJ1_7_9 ((A3, c3), Np, X.heap.size) _ ⟨hHeld, hB.alloc hB.size _, rn_C hr (S := fun _ => False) (Mod.below (below_a _ _)) (fun _ _ _ e => e), fun ad e1 e2 => (hT ad e1 e2).mod (S := fun _ => False) (Mod.below (below_a _ _)) (fun e => e), below_obj (below_a _ _) h7, b7, heap_alloc_new _ _, hB.size⟩)
            · skip
              rintro ⟨Np, Ns, Nn⟩ X ⟨hHeld, hB, h7, b7, h8, b8, h9, b9⟩
              try dsimp only at h7 b7 h8 b8 h9 b9
              refine norm_ (a' := ?_) ?_ ?_
              rotate_left
              · simp only [putAll, Act.put, List.setIfInBounds_toArray, List.set_cons_zero, List.set_cons_succ]
                rfl
              refine one_ (i := 1) (N := some 25) #[true, true, true, true, true, true, true, true, true, true, false, false, false] rfl rfl (by kernel_rfl) (by decide) (fun K hK => ?_)
              refine goes_ Tryd.func44 (by kernel_rfl) rfl #[.slice A1 n1 c1] (by rfl) rfl rfl (by simp only [List.map_toArray, List.map_cons, List.map_nil]; rfl) ?_
              with_reducible refine (flat_walk rows out _ A1 n1 c1 X (RowsAt.mod HK.out.1 (S := fun _ => False) (Mod.below hB) (fun _ _ e => e)) HF.out).mono ?_
              rintro en w3 ⟨A3, n3, c3, rfl, h1⟩
              refine ⟨_, rfl, ?_⟩
              obtain rfl := (made_reads h1).1
              refine hK.out _ _ ((pw_cell_below h1.bel hHeld)) (fun hHeld => ?_)
              clear hK K
              refine norm_ (a' := ?_) ?_ ?_
              rotate_left
              · show Act.put _ (some 25) _ = _
                simp only [Act.put, List.setIfInBounds_toArray, List.set_cons_zero, List.set_cons_succ, i64_w, i32_w]
                rfl
              exact norm_ (by first | (simp only [putAll, Act.put, List.setIfInBounds_toArray, List.set_cons_zero, List.set_cons_succ]; done) | (simp only [putAll, Act.put, List.setIfInBounds_toArray, List.set_cons_zero, List.set_cons_succ]; rfl)) (hJ1_7_8_9 ((A3, c3), Np, Ns, Nn) _ ⟨hHeld, hB.trans (h1.bel.mono hB.size), (Kd.R_reads' h1.own).2.2, fun ad q1 _ => own_ty h1.own (k := ad.block) (by have q2 : A3 = some ad := q1; rw [q2]; rfl), below_obj h1.bel h7, b7, below_obj h1.bel h8, b8, below_obj h1.bel h9, b9⟩)
          · skip
            rintro ⟨⟨A3, c3⟩, Ns, Nn⟩ X ⟨hHeld, hB, hr, hT, h8, b8, h9, b9⟩
            try dsimp only at hr hT h8 b8 h9 b9
            refine norm_ (a' := ?_) ?_ ?_
            rotate_left
            · simp only [putAll, Act.put, List.setIfInBounds_toArray, List.set_cons_zero, List.set_cons_succ]
              rfl
            refine one_ (i := 7) (N := some 7) #[true, true, true, true, true, true, true, true, true, true, false, false, false] rfl rfl (by kernel_rfl) (by decide) (fun K hK => ?_)
            refine value_ (w1 := ?_) (v := ?_) (by rfl) rfl ?_ ?_
            rotate_left 2
            · go_simp
              constructor
              · rfl
              · rfl
            refine hK.out _ _ ((keep_alloc _ hHeld)) (fun hHeld => ?_)
            clear hK K
            refine norm_ (a' := ?_) ?_ ?_
            rotate_left
            · show Act.put _ (some 7) _ = _
              simp only [Act.put, List.setIfInBounds_toArray, List.set_cons_zero, List.set_cons_succ, i64_w, i32_w]
              rfl
            exact norm_ (by first | (simp only [putAll, Act.put, List.setIfInBounds_toArray, List.set_cons_zero, List.set_cons_succ]; done) | (simp only [putAll, Act.put, List.setIfInBounds_toArray, List.set_cons_zero, List.set_cons_succ]; rfl)) (hJ1_7_8_9 ((A3, c3), X.heap.size, Ns, Nn) _ ⟨hHeld, hB.alloc hB.size _, rn_C hr (S := fun _ => False) (Mod.below (below_a _ _)) (fun _ _ _ e => e), fun ad e1 e2 => (hT ad e1 e2).mod (S := fun _ => False) (Mod.below (below_a _ _)) (fun e => e), heap_alloc_new _ _, hB.size, below_obj (below_a _ _) h8, b8, below_obj (below_a _ _) h9, b9⟩)
        · skip
          rintro ⟨⟨A3, c3⟩, Np, Nn⟩ X ⟨hHeld, hB, hr, hT, h7, b7, h9, b9⟩
          try dsimp only at hr hT h7 b7 h9 b9
          refine norm_ (a' := ?_) ?_ ?_
          rotate_left
          · simp only [putAll, Act.put, List.setIfInBounds_toArray, List.set_cons_zero, List.set_cons_succ]
            rfl
          refine one_ (i := 8) (N := some 8) #[true, true, true, true, true, true, true, true, true, true, false, false, false] rfl rfl (by kernel_rfl) (by decide) (fun K hK => ?_)
          refine value_ (w1 := ?_) (v := ?_) (by rfl) rfl ?_ ?_
          rotate_left 2
          · go_simp
            constructor
            · rfl
            · rfl
          refine hK.out _ _ ((keep_alloc _ hHeld)) (fun hHeld => ?_)
          clear hK K
          refine norm_ (a' := ?_) ?_ ?_
          rotate_left
          · show Act.put _ (some 8) _ = _
            simp only [Act.put, List.setIfInBounds_toArray, List.set_cons_zero, List.set_cons_succ, i64_w, i32_w]
            rfl
          exact norm_ (by first | (simp only [putAll, Act.put, List.setIfInBounds_toArray, List.set_cons_zero, List.set_cons_succ]; done) | (simp only [putAll, Act.put, List.setIfInBounds_toArray, List.set_cons_zero, List.set_cons_succ]; rfl)) (hJ1_7_8_9 ((A3, c3), Np, X.heap.size, Nn) _ ⟨hHeld, hB.alloc hB.size _, rn_C hr (S := fun _ => False) (Mod.below (below_a _ _)) (fun _ _ _ e => e), fun ad e1 e2 => (hT ad e1 e2).mod (S := fun _ => False) (Mod.below (below_a _ _)) (fun e => e), below_obj (below_a _ _) h7, b7, heap_alloc_new _ _, hB.size, below_obj (below_a _ _) h9, b9⟩)
      · skip
        rintro ⟨⟨A3, c3⟩, Np, Ns⟩ X ⟨hHeld, hB, hr, hT, h7, b7, h8, b8⟩
        try dsimp only at hr hT h7 b7 h8 b8
        refine norm_ (a' := ?_) ?_ ?_
        rotate_left
        · simp only [putAll, Act.put, List.setIfInBounds_toArray, List.set_cons_zero, List.set_cons_succ]
          rfl
        refine one_ (i := 9) (N := some 9) #[true, true, true, true, true, true, true, true, true, true, false, false, false] rfl rfl (by kernel_rfl) (by decide) (fun K hK => ?_)
        refine value_ (w1 := ?_) (v := ?_) (by rfl) rfl ?_ ?_
        rotate_left 2
        · go_simp
          constructor
          · rfl
          · rfl
        refine hK.out _ _ ((keep_alloc _ hHeld)) (fun hHeld => ?_)
        clear hK K
        refine norm_ (a' := ?_) ?_ ?_
        rotate_left
        · show Act.put _ (some 9) _ = _
          simp only [Act.put, List.setIfInBounds_toArray, List.set_cons_zero, List.set_cons_succ, i64_w, i32_w]
          rfl
        exact norm_ (by first | (simp only [putAll, Act.put, List.setIfInBounds_toArray, List.set_cons_zero, List.set_cons_succ]; done) | (simp only [putAll, Act.put, List.setIfInBounds_toArray, List.set_cons_zero, List.set_cons_succ]; rfl)) (hJ1_7_8_9 ((A3, c3), Np, Ns, X.heap.size) _ ⟨hHeld, hB.alloc hB.size _, rn_C hr (S := fun _ => False) (Mod.below (below_a _ _)) (fun _ _ _ e => e), fun ad e1 e2 => (hT ad e1 e2).mod (S := fun _ => False) (Mod.below (below_a _ _)) (fun e => e), below_obj (below_a _ _) h7, b7, below_obj (below_a _ _) h8, b8, heap_alloc_new _ _, hB.size⟩)
    rintro ⟨⟨A3, c3⟩, Np, Ns, Nn⟩ X ⟨hHeld, hB, hr, hT, h7, b7, h8, b8, h9, b9⟩
    try dsimp only at hr hT h7 b7 h8 b8 h9 b9
    have y7 := (blk_cell h7 0).trans rfl; have x7 := blk_frozen h7 0
    have y8 := (blk_cell h8 0).trans rfl; have x8 := blk_frozen h8 0
    have y9 := (blk_cell h9 0).trans rfl; have x9 := blk_frozen h9 0
    have n78 : ¬ Np = Ns := Ty.ne ⟨_, _, h7⟩ ⟨_, _, h8⟩ (by decide)
    have n79 : ¬ Np = Nn := Ty.ne ⟨_, _, h7⟩ ⟨_, _, h9⟩ (by decide)
    have n89 : ¬ Ns = Nn := Ty.ne ⟨_, _, h8⟩ ⟨_, _, h9⟩ (by decide)
    have n87 : ¬ Ns = Np := fun h => n78 h.symm
    have n97 : ¬ Nn = Np := fun h => n79 h.symm
    have n98 : ¬ Nn = Ns := fun h => n89 h.symm
    refine norm_ (a' := ?_) ?_ ?_
    rotate_left
    · simp only [putAll, Act.put, List.setIfInBounds_toArray, List.set_cons_zero, List.set_cons_succ]
      rfl
    refine one_ (i := 10) (N := none) #[true, true, true, true, true, true, true, true, true, true, true, false, false] rfl rfl (by kernel_rfl) (by decide) (fun K hK => ?_)
    refine skip_ (w1 := ?_) (by rfl) rfl ?_ ?_
    rotate_left
    · go_simp
      rfl
    refine hK.out _ _ ((keep_set hHeld (Nat.ne_of_lt (Nat.lt_of_lt_of_le hl1 b7)))) (fun hHeld => ?_)
    clear hK K
    refine one_ (i := 11) (N := none) #[true, true, true, true, true, true, true, true, true, true, true, true, false] rfl rfl (by kernel_rfl) (by decide) (fun K hK => ?_)
    refine skip_ (w1 := ?_) (by rfl) rfl ?_ ?_
    rotate_left
    · go_simp
      rfl
    refine hK.out _ _ ((keep_set hHeld (Nat.ne_of_lt (Nat.lt_of_lt_of_le hl1 b8)))) (fun hHeld => ?_)
    clear hK K
    refine one_ (i := 12) (N := none) #[true, true, true, true, true, true, true, true, true, true, true, true, true] rfl rfl (by kernel_rfl) (by decide) (fun K hK => ?_)
    refine skip_ (w1 := ?_) (by rfl) rfl ?_ ?_
    rotate_left
    · go_simp
      rfl
    refine hK.out _ _ ((keep_set hHeld (Nat.ne_of_lt (Nat.lt_of_lt_of_le hl1 b9)))) (fun hHeld => ?_)
    clear hK K
    refine done_ (by kernel_rfl) ?_
    -- END OF REGION 4
    refine hK2 _ _ (Met.intro (hJ _ _ ?_))
    (repeat apply Exists.intro)
    refine ⟨?rel, rfl⟩
    case rel => exact ⟨Np, Ns, Nn, A3, c3, rfl, rfl, rfl, trim_cells h7 h8 h9 hB b7 b8 b9 hr hT⟩
  case rest =>
    obtain ⟨Np, Ns, Nn, A3, c3, rfl, rfl, rfl, hx⟩ := hcut
    have fldc : FldAt S wc f g deep y := FldAt.below (FldAt.env_of (FldAt.below HH.out.1 (below_a _ _)) (EnvAt.below HH.out.2 (below_a _ _)) HK.out.2.2.1) hx.bel
    have envc : EnvAt E' wc g e1 := EnvAt.below HK.out.2.1 hx.bel
    have HMc : Hid (Mod E w wc) := Lib.hid (((Mod.below (below_a w _)).trans HK.out.2.2.1 (fun _ _ h => h)).trans (S' := fun _ => False) (Mod.below hx.bel) (fun _ _ e => e.elim))
    have HS5 : Hid (∀ k, k < w.heap.size → E' k → E k) := Lib.hid (fun k hk => HK.out.2.2.2 k (by simp; omega))
    have HN : Hid ((¬ E' w.heap.size) ∧ (¬ S w.heap.size) ∧ ¬ 0 = w.heap.size) := Lib.hid ⟨fun h => (env_notF HH.out.1 HH.out.2).1 (HK.out.2.2.2 _ (by simp) h), fld_lt HH.out.1 (Nat.le_refl _), Nat.ne_of_lt (fld_tab HH.out.1)⟩
    have HOc := Lib.hid (below_obj hx.bel HO.out)
    have Hx := Lib.hid hx
    have Hc := Lib.hid (And.intro fldc envc)
    obtain ⟨R, hR⟩ : ∃ R, cutF (charsOf out) p.op v (v.size + 1) 0 = R := ⟨_, rfl⟩
    have HTR := HT.out
    rw [hR] at HTR
    have HT2 : Hid (tellP ⟨p, R, st, l, mi⟩ y e1 = some (0, y', e1)) := Lib.hid (by unfold tellP; rw [HTR]; rfl)
    have HR := Lib.hid hR
    have n0 := hx.n
    have hw1 : IntKind.i64.wrap ((v.size : Int) + 1) = (v.size : Int) + 1 := IntWalk.i64_in _ (by omega)
    clear HT HTR hR fldc envc hx d6 hl1 HK HO HH HX HW HA HF
    go_wp2
    go_loopw [34] (fun i wr => ∃ k : Nat, k ≤ v.size + 1 ∧ i = .int .i64 k ∧ Hid (Below wc.heap.size wc wr ∧ cutF (charsOf out) p.op v (v.size + 1 - k) k = R)) (fun i _ => v.size + 1 - (intOf i).toNat)
    case atStart => exact ⟨0, Nat.zero_le _, rfl, Lib.hid ⟨Below.refl _ _, HR.out⟩⟩
    case round =>
      obtain ⟨k, hk, rfl, hl⟩ := hrel
      have HOr := Lib.hid (below_obj hl.out.1 HOc.out)
      obtain ⟨q1, q2, q3⟩ := box_cells HOr.out
      have n1 := pw_cell_below hl.out.1 Hx.out.n
      clear n0
      by_cases hlt : k ≤ v.size
      · obtain ⟨j, hj⟩ : ∃ j, j = if p.op.size = 2 then v.size - k else k := ⟨_, rfl⟩
        have hjs : j ≤ v.size := by rw [hj]; split <;> omega
        obtain ⟨lt, hlt1⟩ : ∃ b, (cutAt (charsOf out) p.op v j).1 = b := ⟨_, rfl⟩
        obtain ⟨is, his⟩ : ∃ b, (cutAt (charsOf out) p.op v j).2 = b := ⟨_, rfl⟩
        have hcf : (if is then lt else cutF (charsOf out) p.op v (v.size - k) (k + 1)) = R := by
          have h := hl.out.2
          rw [show v.size + 1 - k = (v.size - k) + 1 from by omega] at h
          unfold cutF at h
          dsimp only at h
          rw [← hj, his, hlt1] at h
          exact h
        have HCF := Lib.hid hcf
        have HCALL : Hid (∀ W, Below wc.heap.size wc W → Calls Tryd.prog 45 #[.int .i64 (j : Int), .pointer (some ⟨w.heap.size, 0, none⟩), .pointer (some ⟨Ns, 0, none⟩), .pointer (some ⟨Np, 0, none⟩), .pointer (some ⟨Nn, 0, none⟩)] W fun en w' => en = .returned (.tuple #[.string lt, .bool is]) ∧ Below W.heap.size W w') := Lib.hid fun W hb => by
          have hc := cut_m w.heap.size Np Ns Nn p.op v out A3 c3 j W ((blk_cell (below_obj hb HOc.out) 2).trans rfl) (pw_cell_below hb Hx.out.s) (pw_cell_below hb Hx.out.p) (pw_cell_below hb Hx.out.n) (fun ad e1 e2 => Nat.lt_of_lt_of_le (Hx.out.lt ad e1 e2) hb.size) (ReadsRn.below_ Hx.out.row Hx.out.lt hb) HC.out.2.1 HC.out.1 hjs HC.out.2.2
          rw [hlt1, his] at hc
          exact hc
        clear hcf hlt1 his
        by_cases h2 : p.op.size = 2
        · have h2' : ((p.op.size : Nat) : Int) = 2 := by omega
          have ej : IntKind.i64.wrap ((v.size : Int) - (k : Int)) = (j : Int) := by
            rw [if_pos h2] at hj
            rw [IntWalk.i64_in _ (by omega)]
            omega
          clear hj h2
          cases is with
          | true =>
            have hR2 : lt = R := HCF.out
            subst hR2
            go_wp2_with (first
              | (go_at_call 45; refine (HCALL.out _ hl.out.1).mono ?_; rintro en w2 ⟨rfl, hb⟩; have HB2 := Lib.hid (hl.out.1.trans (hb.mono hl.out.1.size)); obtain ⟨r1, r2, r3⟩ := box_cells (below_obj hb HOr.out); have tN := Lib.hid (show Ty w2 w.heap.size 75 from ⟨_, _, below_obj hb HOr.out⟩); clear hb)
              | (go_at_call 38; refine (tell_m S E' f g deep ⟨p, lt, st, l, mi⟩ A n c ba A2 n2 c2 y y' e1 e1 0 _ (FldAt.box (FldAt.below Hc.out.1 HB2.out) HN.out.2.1 tN.out) (EnvAt.box (EnvAt.below Hc.out.2 HB2.out) HN.out.1 tN.out HN.out.2.2) HT2.out).mono ?_; rintro en w7 ⟨rfl, h1⟩; have H7 := Lib.hid h1; clear h1))
            go_ret
            exact ⟨rfl, .after_env ((HMc.out.trans (S' := fun _ => False) (Mod.below HB2.out) (fun _ _ e => e.elim)).setCell (p := ⟨w.heap.size, 6, none⟩) (fun hh => absurd hh (Nat.lt_irrefl _)) _) HS5.out H7.out⟩
          | false =>
            have hR2 : cutF (charsOf out) p.op v (v.size - k) (k + 1) = R := HCF.out
            have HR2 := Lib.hid hR2
            clear hR2
            go_wp2_with (go_at_call 45; refine (HCALL.out _ hl.out.1).mono ?_; rintro en w2 ⟨rfl, hb⟩; have HB2 := Lib.hid (hl.out.1.trans (hb.mono hl.out.1.size)); clear hb)
            go_roundw
            case rel => exact ⟨k + 1, by go_num, by go_num, Lib.hid ⟨HB2.out, by rw [show v.size + 1 - (k + 1) = v.size - k from by omega]; exact HR2.out⟩⟩
            case measure => simp [intOf]; omega
        · have h2' : ¬ ((p.op.size : Nat) : Int) = 2 := by omega
          rw [if_neg h2] at hj
          subst hj
          clear h2
          cases is with
          | true =>
            have hR2 : lt = R := HCF.out
            subst hR2
            go_wp2_with (first
              | (go_at_call 45; refine (HCALL.out _ hl.out.1).mono ?_; rintro en w2 ⟨rfl, hb⟩; have HB2 := Lib.hid (hl.out.1.trans (hb.mono hl.out.1.size)); obtain ⟨r1, r2, r3⟩ := box_cells (below_obj hb HOr.out); have tN := Lib.hid (show Ty w2 w.heap.size 75 from ⟨_, _, below_obj hb HOr.out⟩); clear hb)
              | (go_at_call 38; refine (tell_m S E' f g deep ⟨p, lt, st, l, mi⟩ A n c ba A2 n2 c2 y y' e1 e1 0 _ (FldAt.box (FldAt.below Hc.out.1 HB2.out) HN.out.2.1 tN.out) (EnvAt.box (EnvAt.below Hc.out.2 HB2.out) HN.out.1 tN.out HN.out.2.2) HT2.out).mono ?_; rintro en w7 ⟨rfl, h1⟩; have H7 := Lib.hid h1; clear h1))
            go_ret
            exact ⟨rfl, .after_env ((HMc.out.trans (S' := fun _ => False) (Mod.below HB2.out) (fun _ _ e => e.elim)).setCell (p := ⟨w.heap.size, 6, none⟩) (fun hh => absurd hh (Nat.lt_irrefl _)) _) HS5.out H7.out⟩
          | false =>
            have hR2 : cutF (charsOf out) p.op v (v.size - j) (j + 1) = R := HCF.out
            have HR2 := Lib.hid hR2
            clear hR2
            go_wp2_with (go_at_call 45; refine (HCALL.out _ hl.out.1).mono ?_; rintro en w2 ⟨rfl, hb⟩; have HB2 := Lib.hid (hl.out.1.trans (hb.mono hl.out.1.size)); clear hb)
            go_roundw
            case rel => exact ⟨j + 1, by go_num, by go_num, Lib.hid ⟨HB2.out, by rw [show v.size + 1 - (j + 1) = v.size - j from by omega]; exact HR2.out⟩⟩
            case measure => simp [intOf]; omega
      · have ek : k = v.size + 1 := by omega
        subst ek
        have hR2 : v = R := by
          have h := hl.out.2
          rw [Nat.sub_self] at h
          exact h
        subst hR2
        go_wp2_with (go_at_call 38; refine (tell_m S E' f g deep ⟨p, v, st, l, mi⟩ A n c ba A2 n2 c2 y y' e1 e1 0 _ (FldAt.below Hc.out.1 hl.out.1) (EnvAt.below Hc.out.2 hl.out.1) HT2.out).mono ?_; rintro en w7 ⟨rfl, h1⟩; have H7 := Lib.hid h1; clear h1)
        go_ret
        exact ⟨rfl, .after_env (HMc.out.trans (S' := fun _ => False) (Mod.below hl.out.1) (fun _ _ e => e.elim)) HS5.out H7.out⟩

set_option maxHeartbeats 1600000 in
set_option maxRecDepth 100000 in
theorem trim_err {W : List PartT → EnvT → Option Ans} {deep : Int} {d : Nat} (hX : ExpandOk (deep + 1) d W) (hd0 : 0 ≤ deep) (hd1 : deep ≤ 30) (S E P : Nat → Prop) (f g : Nat) (p : PartT) (v : B) (st mi : Bool) (l : List B) (A : Option Addr) (n c : Nat) (ba : Option Addr) (A2 : Option Addr) (n2 c2 : Nat) (y : FT) (e e1 : EnvT) (rows : List (List Rn)) (er : Int) (w : World) (H : FldAt S w f g deep y) (HE : EnvAt E w g e)
    (hw : WordAt d P w A n p.word) (hc : n ≤ c) (hP : ∀ k, P k → ¬ E k) (ha : W p.word e = some (rows, er, e1)) (her : er ≠ 0) :
    Calls Tryd.prog 32 #[.pointer (some ⟨f, 0, none⟩), paramV ⟨p, v, st, l, mi⟩ (.slice A n c) (.pointer ba) (.slice A2 n2 c2)] w fun en w' => en = .returned (.int .i64 er) ∧ MPost S E w f g deep y e1 w' := by
  have HH := Lib.hid (And.intro H HE)
  have HX := Lib.hid hX
  have HW := Lib.hid (And.intro hw (And.intro hc hP))
  have HA := Lib.hid ha
  clear hX hw hc hP ha H HE
  unfold paramV
  go_enter Tryd.func32, Tryd.ntmps32
  go_wp2_with (go_at_call 41; refine (word_m HX.out hd0 hd1 S E P f g p A n c ba y e (rows, er, e1) _ (FldAt.below HH.out.1 (below_a _ _)) (EnvAt.below HH.out.2 (below_a _ _)) (WordAt.below HW.out.1 (below_a _ _)) HW.out.2.1 HW.out.2.2 HA.out).mono ?_; rintro en w1 ⟨A1, n1, c1, E', rfl, k2, k3, k4, k5, k6⟩; have HK := Lib.hid (And.intro k2 (And.intro k4 (And.intro k5 k6))); clear k2 k3 k4 k5 k6)
  go_ret
  exact ⟨rfl, .before (below_a _ _) (.after_env HK.out.2.2.1 HK.out.2.2.2 (.same (FldAt.env_of (FldAt.below HH.out.1 (below_a _ _)) (EnvAt.below HH.out.2 (below_a _ _)) HK.out.2.2.1) HK.out.2.1 (Below.refl _ _)))⟩

theorem trim_m {W : List PartT → EnvT → Option Ans} {deep : Int} {d : Nat} (hX : ExpandOk (deep + 1) d W) (hd0 : 0 ≤ deep) (hd1 : deep ≤ 30) : MOk 32 (trimP W) deep d := by
  intro S E P f g x A n c ba A2 c2 y y' e e' r w H HE hw hc hP _ _ _ h
  obtain ⟨p, v, st, l, mi⟩ := x
  unfold trimP at h
  rw [Option.bind_eq_some_iff] at h
  obtain ⟨⟨rows, er, e1⟩, ha, h⟩ := h
  dsimp only at h ha hw
  by_cases her : er = 0
  · subst her
    rw [if_neg (by simp)] at h
    rw [Option.bind_eq_some_iff] at h
    obtain ⟨out, hf, h⟩ := h
    split at h
    · rename_i hb
      obtain ⟨h1, h2, h3⟩ := tellP_some h
      subst h1 h2
      exact trim_try hX hd0 hd1 S E P f g p v st mi l A n c ba A2 _ c2 y y' e _ rows out w H HE hw hc hP ha hf hb.2.1 hb.1 hb.2.2 h3
    · cases h
  · rw [if_pos her] at h
    cases h
    exact trim_err hX hd0 hd1 S E P f g p v st mi l A n c ba A2 _ c2 y e e' rows r w H HE hw hc hP ha her

end Go.Proofs.YthbnnlhkcaomlaaDoor.Ex

/- Expand, at every depth. -/
namespace Go.Proofs.YthbnnlhkcaomlaaDoor.Ex
open Go.RowKit Go.Shelf Go.Proofs.YthbnnlhkcaomlaaDoorW.PrintWords Go.Proofs.YthbnnlhkcaomlaaDoor.Gl

theorem expand_ok : ∀ (k : Nat) (deep : Int) (d : Nat), deep = 21 - (k : Int) → k ≤ 20 → ExpandOk deep d (expandP k deep)
  | 0, deep, d, hd, _ => expand_deep (by omega)
  | k + 1, deep, d, hd, hk => by
    have hX : ExpandOk (deep + 1) (d - 1) (expandP k (deep + 1)) := expand_ok k (deep + 1) (d - 1) (by omega) (by omega)
    intro E P g e word a A n c w HE hw hc hP h
    exact expand_try hX (trim_m hX (by omega) (by omega)) (by omega) (by omega) E P g e word a A n c w HE hw hc hP h

set_option maxHeartbeats 1600000 in
set_option maxRecDepth 100000 in
theorem Expand_walk (d : Nat) (E P : Nat → Prop) (g : Nat) (e : EnvT) (word : List PartT) (a : Ans) (A : Option Addr) (n c : Nat) (w : World) (HE : EnvAt E w g e) (hw : WordAt d P w A n word) (hc : n ≤ c) (hP : ∀ k, P k → ¬ E k) (h : expandP 20 1 word e = some a) :
    Calls Tryd.prog 9 #[.slice A n c, .iface 28 (.pointer (some ⟨g, 0, none⟩))] w fun en w' => WPost E w g a en w' := by
  have HX := Lib.hid (expand_ok 20 1 d (by decide) (Nat.le_refl _) E P g e word a A n c w HE hw hc hP h)
  clear HE hw hc hP h
  go_enter Tryd.func9, Tryd.ntmps9
  go_wp2_with (go_at_call 18; refine HX.out.mono ?_; rintro en w1 ⟨A1, n1, c1, E', rfl, k2, k3, k4, k5, k6⟩; have HK := Lib.hid (show WPost E w g a _ w1 from ⟨A1, n1, c1, E', rfl, k2, k3, k4, k5, k6⟩); clear k2 k3 k4 k5 k6)
  go_ret2
  exact HK.out

set_option maxHeartbeats 1600000 in
set_option maxRecDepth 100000 in
theorem Expand_nil (A : Option Addr) (n c : Nat) (w : World) :
    Calls Tryd.prog 9 #[.slice A n c, .nilIface] w fun en w' => en = .returned (.tuple #[.slice none 0 0, .int .i64 1]) ∧ w' = w := by
  go_enter Tryd.func9, Tryd.ntmps9
  go_wp2
  go_ret2
  exact ⟨rfl, rfl⟩

end Go.Proofs.YthbnnlhkcaomlaaDoor.Ex

/- The law's small functions: lit, quo, par, vars. -/
namespace Go.Proofs.YthbnnlhkcaomlaaDoor.Ex
open Go.RowKit Go.Shelf Go.Proofs.YthbnnlhkcaomlaaDoorW.PrintWords Go.Proofs.YthbnnlhkcaomlaaDoor.Gl

set_option maxHeartbeats 800000 in
set_option maxRecDepth 100000 in
theorem lit_w (s : B) (w : World) : Calls Tryd.prog 14 #[.string s] w fun en w' =>
    en = .returned (.agg #[.int .i64 0, .string s, .string ⟨#[]⟩, .bool false, .slice none 0 0, .pointer none]) ∧ Below w.heap.size w w' := by
  go_enter Tryd.func14, Tryd.ntmps14
  go_wp2
  exact bodyPost_ret (results_cell_row rfl _ _ w.heap.size 47 _ (0, 0) _ rfl (heap_alloc_new _ _) Tryd.underlying47 rfl (by kernel_rfl)) rfl ⟨rfl, below_a _ _⟩

set_option maxHeartbeats 800000 in
set_option maxRecDepth 100000 in
theorem quo_w (s : B) (w : World) : Calls Tryd.prog 12 #[.string s] w fun en w' =>
    en = .returned (.agg #[.int .i64 1, .string s, .string ⟨#[]⟩, .bool true, .slice none 0 0, .pointer none]) ∧ Below w.heap.size w w' := by
  go_enter Tryd.func12, Tryd.ntmps12
  go_wp2
  exact bodyPost_ret (results_cell_row rfl _ _ w.heap.size 47 _ (0, 0) _ rfl (heap_alloc_new _ _) Tryd.underlying47 rfl (by kernel_rfl)) rfl ⟨rfl, below_a _ _⟩

set_option maxHeartbeats 800000 in
set_option maxRecDepth 100000 in
theorem par_w (nm op : B) (q : Bool) (A : Option Addr) (n c : Nat) (w : World) : Calls Tryd.prog 13 #[.string nm, .string op, .bool q, .slice A n c] w fun en w' =>
    en = .returned (.agg #[.int .i64 2, .string nm, .string op, .bool q, .slice A n c, .pointer none]) ∧ Below w.heap.size w w' := by
  go_enter Tryd.func13, Tryd.ntmps13
  go_wp2
  exact bodyPost_ret (results_cell_row rfl _ _ w.heap.size 47 _ (0, 0) _ rfl (heap_alloc_new _ _) Tryd.underlying47 rfl (by kernel_rfl)) rfl ⟨rfl, below_a _ _⟩

/-- Variables that are read: none, or a full row; arguments. -/
structure VarsAt (w : World) (lv : Value) (A : Option Addr) (c : Nat) (L : List (B × B)) (args : List B) : Prop where
  rL : (lv = .slice none 0 0 ∧ L = []) ∨ ∃ b, lv = .slice (some ⟨b, 0, none⟩) L.length L.length ∧ kVar.C w (some ⟨b, 0, none⟩) L.length L ∧ Ty w b 44
  hA : Kd.string.C w A args.length args
  hc : args.length ≤ c
  hT : ∀ ad, A = some ad → 0 < args.length → Ty w ad.block 9
  len : args.length < big
theorem VarsAt.below {w w' : World} {lv : Value} {A : Option Addr} {c : Nat} {L : List (B × B)} {args : List B} (h : VarsAt w lv A c L args) (hb : Below w.heap.size w w') : VarsAt w' lv A c L args where
  rL := by
    rcases h.rL with h1 | ⟨b, h1, h2, h3⟩
    · exact .inl h1
    · exact .inr ⟨b, h1, Kd.C_below h2 hb, h3.mod (S := fun _ => False) (Mod.below hb) (fun e => e)⟩
  hA := Kd.C_below h.hA hb
  hc := h.hc
  hT := fun ad e1 e2 => (h.hT ad e1 e2).mod (S := fun _ => False) (Mod.below hb) (fun e => e)
  len := h.len
def lawL : List (B × B) := [(⟨#[120]⟩, ⟨#[97, 32, 98]⟩), (⟨#[121]⟩, ⟨#[]⟩)]
def lawA : List B := [⟨#[49]⟩, ⟨#[50, 32, 51]⟩]
theorem row_C {α : Type} (d : Kd α) {w : World} {N : Nat} {t : TypeId} {cs : List Value} {xs : List α} (h : w.heap[N]? = some (.cells cs.toArray t (0, 0))) (hn : xs.length ≤ 1000) (hx : ∀ (j : Nat) p, xs[j]? = some p → ∃ c, c.length = d.sz ∧ d.K w p c ∧ ∀ i u, c[i]? = some u → cs[j * d.sz + i]? = some u) : d.C w (some ⟨N, 0, none⟩) xs.length xs := by
  refine ⟨rfl, by omega, fun _ => ⟨_, rfl, fun j p hj => ?_⟩⟩
  obtain ⟨c, h1, h2, h3⟩ := hx j p hj
  refine ⟨c, h1, h2, fun i u hu => ?_⟩
  have h4 := (blk_cell h (j * d.sz + i)).trans (by simpa using h3 i u hu)
  by_cases h0 : j * d.sz + i = 0
  · rw [h0] at h4 ⊢; exact h4
  · rw [Addr.add, if_neg h0]; simpa using h4
theorem two_vars {w : World} {N : Nat} {a b c d : B} (h : w.heap[N]? = some (.cells #[.string a, .string b, .string c, .string d] 44 (0, 0))) : kVar.C w (some ⟨N, 0, none⟩) 2 [(a, b), (c, d)] :=
  row_C kVar (cs := [.string a, .string b, .string c, .string d]) h (by simp) (fun j p hj => by
    match j, hj with
    | 0, hj =>
      cases hj
      refine ⟨_, rfl, (show kVar.K w (a, b) [.string a, .string b] from ⟨[.string a], [.string b], rfl, rfl, rfl⟩), fun i u hu => ?_⟩
      match i, hu with
      | 0, hu => exact hu
      | 1, hu => exact hu
    | 1, hj =>
      cases hj
      refine ⟨_, rfl, (show kVar.K w (c, d) [.string c, .string d] from ⟨[.string c], [.string d], rfl, rfl, rfl⟩), fun i u hu => ?_⟩
      match i, hu with
      | 0, hu => exact hu
      | 1, hu => exact hu)
theorem two_strs {w : World} {N : Nat} {a b : B} (h : w.heap[N]? = some (.cells #[.string a, .string b] 9 (0, 0))) : Kd.string.C w (some ⟨N, 0, none⟩) 2 [a, b] :=
  row_C Kd.string (cs := [.string a, .string b]) h (by simp) (fun j p hj => by
    match j, hj with
    | 0, hj =>
      cases hj
      refine ⟨_, rfl, rfl, fun i u hu => ?_⟩
      match i, hu with
      | 0, hu => exact hu
    | 1, hj =>
      cases hj
      refine ⟨_, rfl, rfl, fun i u hu => ?_⟩
      match i, hu with
      | 0, hu => exact hu)

set_option maxHeartbeats 1600000 in
set_option maxRecDepth 100000 in
theorem vars_w (w : World) : Calls Tryd.prog 16 #[] w fun en w' =>
    ∃ N A c, en = .returned (.agg #[.slice (some ⟨N, 0, none⟩) 2 2, .slice A 2 c, .int .i64 7]) ∧ VarsAt w' (.slice (some ⟨N, 0, none⟩) 2 2) A c lawL lawA ∧ Below w.heap.size w w' := by
  go_enter Tryd.func16, Tryd.ntmps16
  go_wp2
  have h := three_new w (.cells #[.slice (some ⟨w.heap.size + 1, 0, none⟩) 2 2, .slice (some ⟨w.heap.size + 1 + 1, 0, none⟩) 2 2, .int .i64 7] 26) (.cells #[.string ⟨#[120]⟩, .string ⟨#[97, 32, 98]⟩, .string ⟨#[121]⟩, .string ⟨#[]⟩] 44) (.cells #[.string ⟨#[49]⟩, .string ⟨#[50, 32, 51]⟩] 9)
  refine bodyPost_ret (results_cell_row rfl _ _ w.heap.size 26 _ (0, 0) _ rfl h.1 Tryd.underlying26 rfl (by kernel_rfl)) rfl ⟨_, _, _, rfl, ?_, below_3 _ _ _ _⟩
  exact ⟨.inr ⟨_, rfl, two_vars h.2.1, ⟨_, _, h.2.1⟩⟩, two_strs h.2.2, Nat.le_refl _, fun ad e _ => by cases e; exact ⟨_, _, h.2.2⟩, by decide⟩

end Go.Proofs.YthbnnlhkcaomlaaDoor.Ex

/- The walk of said. -/
namespace Go.Proofs.YthbnnlhkcaomlaaDoor.Ex
open Go.RowKit Go.Shelf Go.Proofs.YthbnnlhkcaomlaaDoorW.PrintWords Go.Proofs.YthbnnlhkcaomlaaDoor.Gl

def sRun (s : B) (r : Rn) : B := if r.q then ((s ++ (⟨#[39]⟩ : B)) ++ r.t) ++ (⟨#[39]⟩ : B) else if r.s then ((s ++ (⟨#[40]⟩ : B)) ++ r.t) ++ (⟨#[41]⟩ : B) else s ++ r.t
def sRow (s : B) (row : List Rn) : B := (row.foldl sRun (s ++ (⟨#[91]⟩ : B))) ++ (⟨#[93]⟩ : B)
def sRows (rows : List (List Rn)) : B := rows.foldl sRow ⟨#[]⟩
def saidP (word : List PartT) (e : EnvT) : Option B :=
  (expandP 20 1 word e).bind fun a => if a.2.1 ≠ 0 then (if 0 ≤ a.2.1 ∧ a.2.1 ≤ 100 then some ⟨#[33, UInt8.ofNat (97 + a.2.1.toNat)]⟩ else none) else if (sRows a.1).size ≤ bigT then some (sRows a.1) else none
theorem sRun_size (s : B) (r : Rn) : s.size ≤ (sRun s r).size := by
  unfold sRun
  split
  · simp only [ByteArray.size_append]; omega
  · split
    · simp only [ByteArray.size_append]; omega
    · simp only [ByteArray.size_append]; omega
theorem foldRun_size : ∀ (l : List Rn) (s : B), s.size ≤ (l.foldl sRun s).size
  | [], _ => Nat.le_refl _
  | r :: l, s => Nat.le_trans (sRun_size s r) (foldRun_size l (sRun s r))
theorem sRow_size (s : B) (row : List Rn) : s.size + 1 ≤ (sRow s row).size := by
  unfold sRow
  have h := foldRun_size row (s ++ (⟨#[91]⟩ : B))
  have e : (s ++ (⟨#[91]⟩ : B)).size = s.size + 1 := by rw [ByteArray.size_append]; rfl
  rw [ByteArray.size_append]
  omega
theorem foldRow_size : ∀ (l : List (List Rn)) (s : B), s.size ≤ (l.foldl sRow s).size
  | [], _ => Nat.le_refl _
  | r :: l, s => Nat.le_trans (Nat.le_of_lt (sRow_size s r)) (foldRow_size l (sRow s r))
theorem row_end {row : List Rn} {rest : List (List Rn)} {s out : B} (h : rest.foldl sRow ((row.foldl sRun s) ++ (⟨#[93]⟩ : B)) = out) : (row.foldl sRun s).size + 1 ≤ out.size := by
  have h1 := foldRow_size rest ((row.foldl sRun s) ++ (⟨#[93]⟩ : B))
  rw [h, ByteArray.size_append] at h1
  exact h1
theorem tab_lt {w : World} (hT0 : TabOk w) : 0 < w.heap.size := by
  unfold TabOk Lib.TabIs World.var? at hT0
  rw [show Tryd.prog.globalNamed tabName = some 0 from by kernel_rfl] at hT0
  simp only [Option.bind_some] at hT0
  cases hh : w.heap[0]? with
  | none => rw [hh] at hT0; cases hT0
  | some o => exact obj_lt hh
/-- An environment over variables that are read. -/
theorem env_of_vars {w W : World} {lv : Value} {A : Option Addr} {c g : Nat} {L : List (B × B)} {args : List B} {st : Int} (h : VarsAt w lv A c L args) (hb : Below w.heap.size w W) (hg : w.heap.size ≤ g) (ho : W.heap[g]? = some (.cells #[lv, .slice A args.length c, .int .i64 st, .slice none 0 0] 31 (0, 0))) (hT : TabOk w) (hs : -9223372036854775808 ≤ st ∧ st ≤ 9223372036854775807) :
    EnvAt (fun k => k = g) W g ⟨L, args, st, []⟩ := by
  refine ⟨lv, A, c, .slice none 0 0, ?_⟩
  have h' := h.below hb
  exact {
    hb := ho
    rL := by
      rcases h.rL with ⟨e1, e2⟩ | ⟨b, h1, h2, h3⟩
      · subst e1 e2
        exact .inl ⟨Kd.R_nil _ _ _ _ _, fun k hk => by simp [Value.ownBlock] at hk⟩
      · exact .inr ⟨b, h1, Kd.C_below h2 hb, fun e => by have := h3.lt; omega, h3.mod (S := fun _ => False) (Mod.below hb) (fun e => e)⟩
    vS := Kd.R_nil _ _ _ _ _
    hA := h'.hA
    hc := h.hc
    hE := fun ad e1 e2 => ⟨fun e => by have := (h.hT ad e1 e2).lt; omega, h'.hT ad e1 e2⟩
    sE := fun k hk => by simp [Value.ownBlock] at hk
    own := rfl
    ty := fun k hk => .inl ⟨_, _, hk ▸ ho⟩
    tab := tab_mod hT (S := fun _ => False) (Mod.below hb) (fun e => e)
    tabE := fun e => by have := tab_lt hT; omega
    stat := hs
    len := h.len }

theorem conv_err {w : World} {er : Int} (h1 : 0 ≤ er) (h2 : er ≤ 100) : (convert 42 9 (.slice (some ⟨w.heap.size, 0, none⟩) 2 2)).run Tryd.prog (w.alloc (.cells #[.int .u8 33, .int .u8 (97 + er)] 5)) = .ok (.string ⟨#[33, UInt8.ofNat (97 + er.toNat)]⟩) (w.alloc (.cells #[.int .u8 33, .int .u8 (97 + er)] 5)) := by
  refine run_convert_bytes_back (P := Tryd.prog) _ 42 9 5 ⟨w.heap.size, 0, none⟩ 2 [33, UInt8.ofNat (97 + er.toNat)] Tryd.underlying42 Tryd.underlying5 Tryd.underlying9 ?_
  intro j hj
  have hb := heap_alloc_new w (.cells #[.int .u8 33, .int .u8 (97 + er)] 5)
  match j, hj with
  | 0, _ => exact (blk_cell hb 0).trans rfl
  | 1, _ =>
    refine (blk_cell hb 1).trans ?_
    have e : ((UInt8.ofNat (97 + er.toNat)).toNat : Int) = 97 + er := by
      rw [UInt8.toNat_ofNat_of_lt' (by show 97 + er.toNat < 256; omega)]
      omega
    show some (Value.int .u8 (97 + er)) = some (Value.int .u8 ((UInt8.ofNat (97 + er.toNat)).toNat : Int))
    rw [e]

attribute [local go_sem] conv_err
set_option maxHeartbeats 3200000 in
set_option maxRecDepth 100000 in
theorem said_err {d : Nat} {P : Nat → Prop} (lv : Value) (A2 : Option Addr) (c2 : Nat) (L : List (B × B)) (args : List B) (st : Int) (word : List PartT) (rows : List (List Rn)) (er : Int) (e' : EnvT) (A : Option Addr) (n c : Nat) (w : World) (hV : VarsAt w lv A2 c2 L args) (hT : TabOk w) (hs : -9223372036854775808 ≤ st ∧ st ≤ 9223372036854775807)
    (hw : WordAt d P w A n word) (hc : n ≤ c) (h : expandP 20 1 word ⟨L, args, st, []⟩ = some (rows, er, e')) (her : er ≠ 0) (h1 : 0 ≤ er) (h2 : er ≤ 100) :
    Calls Tryd.prog 17 #[.slice A n c, .agg #[lv, .slice A2 args.length c2, .int .i64 st]] w fun en w' => en = .returned (.string ⟨#[33, UInt8.ofNat (97 + er.toNat)]⟩) ∧ Below w.heap.size w w' := by
  have HH := Lib.hid (And.intro hV (And.intro hT (And.intro hs (And.intro hw.lt h))))
  clear hV hT hs hw h
  have u1 : IntKind.u8.wrap er = er := by simp [IntKind.wrap, IntKind.bits, IntKind.signed]; omega
  have u2 : IntKind.u8.wrap (97 + er) = 97 + er := by simp [IntKind.wrap, IntKind.bits, IntKind.signed]; omega
  go_enter Tryd.func17, Tryd.ntmps17
  go_wp2_with (go_at_call 9; refine (Expand_walk d (fun k => k = w.heap.size + 1) (fun k => P k ∧ k < w.heap.size) (w.heap.size + 1) ⟨L, args, st, []⟩ word (rows, er, e') A n c _ (env_of_vars HH.out.1 (below_aa _ _ _) (Nat.le_succ _) (two_new _ _ _).2 HH.out.2.1 HH.out.2.2.1) (WordAt.below HH.out.2.2.2.1 (below_aa _ _ _)) hc (fun k hk he => by have := hk.2; omega) HH.out.2.2.2.2).mono ?_; rintro en w1 ⟨A1, n1, c1, E', rfl, k2, k3, k4, k5, k6⟩; have HB := Lib.hid ((below_aa w _ _).trans (Mod.toBelow k5 (B := w.heap.size) (by simp; omega) (fun i hi he => by omega))); clear k2 k3 k4 k5 k6)
  go_ret
  exact ⟨by simp, HB.out.alloc HB.out.size _⟩

set_option maxHeartbeats 6400000 in
set_option maxRecDepth 100000 in
theorem said_ok {d : Nat} {P : Nat → Prop} (lv : Value) (A2 : Option Addr) (c2 : Nat) (L : List (B × B)) (args : List B) (st : Int) (word : List PartT) (rows : List (List Rn)) (e' : EnvT) (out : B) (A : Option Addr) (n c : Nat) (w : World) (hV : VarsAt w lv A2 c2 L args) (hT : TabOk w) (hs : -9223372036854775808 ≤ st ∧ st ≤ 9223372036854775807)
    (hw : WordAt d P w A n word) (hc : n ≤ c) (h : expandP 20 1 word ⟨L, args, st, []⟩ = some (rows, 0, e')) (ho : sRows rows = out) (hsz : out.size ≤ bigT) :
    Calls Tryd.prog 17 #[.slice A n c, .agg #[lv, .slice A2 args.length c2, .int .i64 st]] w fun en w' => en = .returned (.string out) ∧ Below w.heap.size w w' := by
  have HH := Lib.hid (And.intro hV (And.intro hT (And.intro hs (And.intro hw.lt h))))
  have HO := Lib.hid ho
  have hszN : out.size ≤ 1099511627776 := hsz
  clear hV hT hs hw h ho hsz
  go_enter Tryd.func17, Tryd.ntmps17
  go_wp2_with (go_at_call 9; refine (Expand_walk d (fun k => k = w.heap.size + 1) (fun k => P k ∧ k < w.heap.size) (w.heap.size + 1) ⟨L, args, st, []⟩ word (rows, 0, e') A n c _ (env_of_vars HH.out.1 (below_aa _ _ _) (Nat.le_succ _) (two_new _ _ _).2 HH.out.2.1 HH.out.2.2.1) (WordAt.below HH.out.2.2.2.1 (below_aa _ _ _)) hc (fun k hk he => by have := hk.2; omega) HH.out.2.2.2.2).mono ?_; rintro en w1 ⟨A1, n1, c1, E', rfl, k2, k3, k4, k5, k6⟩; have HB := Lib.hid ((below_aa w _ _).trans (Mod.toBelow k5 (B := w.heap.size) (by simp; omega) (fun i hi he => by omega))); have HR := Lib.hid (RowsAt.imp (P' := fun k => k < w1.heap.size) k2 (fun k hk => hk.2.1)); have hn1 := k2.1; have hm1 := k2.2.1; clear k2 k3 k4 k5 k6)
  go_loopw [8, 7] (fun i sv wr => ∃ (k : Nat) (s : B), k ≤ n1 ∧ i = .int .i64 k ∧ sv = .string s ∧ Hid ((rows.drop k).foldl sRow s = out) ∧ Hid (Below w1.heap.size w1 wr)) (fun i _ _ => n1 - (intOf i).toNat)
  case atStart => exact ⟨0, ⟨#[]⟩, Nat.zero_le _, rfl, rfl, HO, Lib.hid (Below.refl _ _)⟩
  case round =>
    obtain ⟨k, s, hk, rfl, rfl, HS, HW⟩ := hrel
    by_cases hlt : k < n1
    · obtain ⟨row, hrow⟩ : ∃ row, rows[k]? = some row := ⟨_, List.getElem?_eq_getElem (by omega)⟩
      obtain ⟨ad, rfl, hp0, hcell⟩ := HR.out.2.2 (by omega)
      obtain ⟨A', c', x1w, x2, x3, x4⟩ := hcell k row hrow
      have x1 := pw_cell_below HW.out x1w
      have HX := Lib.hid (And.intro x3 (And.intro x4 x1w))
      have hx3 := x3.2.1
      have hrest : (rows.drop (k + 1)).foldl sRow ((row.foldl sRun (s ++ (⟨#[91]⟩ : B))) ++ (⟨#[93]⟩ : B)) = out := by
        have h := HS.out
        rw [drop_cons hrow] at h
        exact h
      have HQ := Lib.hid hrest
      have hs1 : s.size + 1 + 1 ≤ 1099511627776 := by
        have h1 := row_end hrest
        have h2 := foldRun_size row (s ++ (⟨#[91]⟩ : B))
        have e : (s ++ (⟨#[91]⟩ : B)).size = s.size + 1 := by rw [ByteArray.size_append]; rfl
        omega
      have b1 : (9223372036854775807 < s.size + 1) = False := eq_false (by omega)
      clear hcell hp0 x3 x4 hrest HS x1w
      go_wp2
      generalize hsv : s ++ (⟨#[91]⟩ : B) = s1 at HQ ⊢
      clear b1 hs1 x1
      go_loopw [9, 7] (fun j sv wr2 => ∃ (q : Nat) (t : B), q ≤ row.length ∧ j = .int .i64 q ∧ sv = .string t ∧ Hid ((rows.drop (k + 1)).foldl sRow (((row.drop q).foldl sRun t) ++ (⟨#[93]⟩ : B)) = out) ∧ Hid (Below w1.heap.size w1 wr2)) (fun j _ _ => row.length - (intOf j).toNat)
      case atStart => exact ⟨0, s1, Nat.zero_le _, rfl, rfl, HQ, HW⟩
      case round =>
        obtain ⟨q, t, hq, rfl, rfl, HQ2, HW2⟩ := hrel
        have x1 := pw_cell_below HW2.out HX.out.2.2
        by_cases hql : q < row.length
        · obtain ⟨r, hr⟩ : ∃ r, row[q]? = some r := ⟨_, List.getElem?_eq_getElem hql⟩
          obtain ⟨ar, rfl, r1, r2, r3⟩ := rn_at (Kd.C_below HX.out.1 HW2.out) hr
          have hq3 : (rows.drop (k + 1)).foldl sRow (((row.drop (q + 1)).foldl sRun (sRun t r)) ++ (⟨#[93]⟩ : B)) = out := by
            have h := HQ2.out
            rw [drop_cons hr] at h
            exact h
          have hsz2 : (sRun t r).size + 1 ≤ 1099511627776 := by
            have h1 := row_end hq3
            have h2 := foldRun_size (row.drop (q + 1)) (sRun t r)
            omega
          have HQ3 := Lib.hid hq3
          clear hq3 HQ2 hr
          obtain ⟨rt, rq, rs⟩ := r
          cases rq with
          | true =>
            have hz : t.size + 1 + rt.size + 1 + 1 ≤ 1099511627776 := by
              have : (sRun t ⟨rt, true, rs⟩).size = t.size + 1 + rt.size + 1 := by show (((t ++ (⟨#[39]⟩ : B)) ++ rt) ++ (⟨#[39]⟩ : B)).size = _; simp only [ByteArray.size_append]; rfl
              omega
            have b1 : (9223372036854775807 < t.size + 1) = False := eq_false (by omega)
            have b2 : (9223372036854775807 < t.size + 1 + rt.size) = False := eq_false (by omega)
            have b3 : (9223372036854775807 < t.size + 1 + rt.size + 1) = False := eq_false (by omega)
            clear hsz2 hz
            go_wp2
            go_roundw
            case rel => exact ⟨q + 1, _, by omega, by go_num, rfl, HQ3, Lib.hid (HW2.out.alloc HW2.out.size _)⟩
            case measure => simp [intOf]; omega
          | false =>
            cases rs with
            | true =>
              have hz : t.size + 1 + rt.size + 1 + 1 ≤ 1099511627776 := by
                have : (sRun t ⟨rt, false, true⟩).size = t.size + 1 + rt.size + 1 := by show (((t ++ (⟨#[40]⟩ : B)) ++ rt) ++ (⟨#[41]⟩ : B)).size = _; simp only [ByteArray.size_append]; rfl
                omega
              have b1 : (9223372036854775807 < t.size + 1) = False := eq_false (by omega)
              have b2 : (9223372036854775807 < t.size + 1 + rt.size) = False := eq_false (by omega)
              have b3 : (9223372036854775807 < t.size + 1 + rt.size + 1) = False := eq_false (by omega)
              clear hsz2 hz
              go_wp2
              go_roundw
              case rel => exact ⟨q + 1, _, by omega, by go_num, rfl, HQ3, Lib.hid (HW2.out.alloc HW2.out.size _)⟩
              case measure => simp [intOf]; omega
            | false =>
              have hz : t.size + rt.size + 1 ≤ 1099511627776 := by
                have : (sRun t ⟨rt, false, false⟩).size = t.size + rt.size := by show (t ++ rt).size = _; simp only [ByteArray.size_append]
                omega
              have b2 : (9223372036854775807 < t.size + rt.size) = False := eq_false (by omega)
              clear hsz2 hz
              go_wp2
              go_roundw
              case rel => exact ⟨q + 1, _, by omega, by go_num, rfl, HQ3, Lib.hid (HW2.out.alloc HW2.out.size _)⟩
              case measure => simp [intOf]; omega
        · have hq3 : (rows.drop (k + 1)).foldl sRow (t ++ (⟨#[93]⟩ : B)) = out := by
            have h := HQ2.out
            rw [List.drop_eq_nil_of_le (by omega)] at h
            exact h
          have hz : t.size + 1 ≤ 1099511627776 := by
            have h1 := foldRow_size (rows.drop (k + 1)) (t ++ (⟨#[93]⟩ : B))
            rw [hq3, ByteArray.size_append] at h1
            have : ((⟨#[93]⟩ : B)).size = 1 := rfl
            omega
          have b1 : (9223372036854775807 < t.size + 1) = False := eq_false (by omega)
          have HQ3 := Lib.hid hq3
          clear hq3 hz HQ2
          go_wp2
          go_roundw
          case rel => exact ⟨k + 1, _, by omega, by go_num, rfl, HQ3, HW2⟩
          case measure => simp [intOf]; omega
    · go_wp2
      go_ret
      have h := HS.out
      rw [List.drop_eq_nil_of_le (by omega)] at h
      exact ⟨by rw [← h]; rfl, HB.out.trans (HW.out.mono HB.out.size)⟩

end Go.Proofs.YthbnnlhkcaomlaaDoor.Ex

/- The walk of works; words that are built in memory. -/
namespace Go.Proofs.YthbnnlhkcaomlaaDoor.Ex
open Go.RowKit Go.Shelf Go.Proofs.YthbnnlhkcaomlaaDoorW.PrintWords Go.Proofs.YthbnnlhkcaomlaaDoor.Gl

theorem said_w {d : Nat} {P : Nat → Prop} (lv : Value) (A2 : Option Addr) (c2 : Nat) (L : List (B × B)) (args : List B) (st : Int) (word : List PartT) (out : B) (A : Option Addr) (n c : Nat) (w : World) (hV : VarsAt w lv A2 c2 L args) (hT : TabOk w) (hs : -9223372036854775808 ≤ st ∧ st ≤ 9223372036854775807)
    (hw : WordAt d P w A n word) (hc : n ≤ c) (h : saidP word ⟨L, args, st, []⟩ = some out) :
    Calls Tryd.prog 17 #[.slice A n c, .agg #[lv, .slice A2 args.length c2, .int .i64 st]] w fun en w' => en = .returned (.string out) ∧ Below w.heap.size w w' := by
  unfold saidP at h
  rw [Option.bind_eq_some_iff] at h
  obtain ⟨⟨rows, er, e'⟩, h1, h2⟩ := h
  dsimp only at h2
  by_cases her : er = 0
  · subst her
    rw [if_neg (by simp)] at h2
    split at h2
    · rename_i hsz
      cases h2
      exact said_ok lv A2 c2 L args st word rows e' _ A n c w hV hT hs hw hc h1 rfl hsz
    · cases h2
  · rw [if_pos her] at h2
    split at h2
    · rename_i hb
      cases h2
      exact said_err lv A2 c2 L args st word rows er e' A n c w hV hT hs hw hc h1 her hb.1 hb.2
    · cases h2

/-- A part without a word. -/
def leaf (k : Int) (t op : B) (q : Bool) : PartT := .mk k t op q [] none
theorem leaf_at (d : Nat) (P : Nat → Prop) (w : World) (k : Int) (t op : B) (q : Bool) : PartAt (d + 1) P w (leaf k t op q) [.int .i64 k, .string t, .string op, .bool q, .slice none 0 0, .pointer none] :=
  ⟨none, 0, 0, none, rfl, Nat.le_refl _, ⟨rfl, by decide, fun h => absurd h (Nat.lt_irrefl _)⟩, rfl⟩
/-- A part with a word. -/
theorem part_at {d : Nat} {P : Nat → Prop} {w : World} {A : Option Addr} {n c : Nat} {word : List PartT} (h : WordAt d P w A n word) (hc : n ≤ c) (k : Int) (t op : B) (q : Bool) : PartAt (d + 1) P w (.mk k t op q word none) [.int .i64 k, .string t, .string op, .bool q, .slice A n c, .pointer none] :=
  ⟨A, n, c, none, rfl, hc, h, rfl⟩
/-- A word in a block of its own: the cells of its parts, one behind the other. -/
theorem word_row {d : Nat} {P : Nat → Prop} {w : World} {N : Nat} {t : TypeId} {rows : List (List Value)} {cs : Array Value} {ps : List PartT} (h : w.heap[N]? = some (.cells cs t (0, 0))) (hp : P N) (hn : ps.length ≤ 1000) (hcs : cs.toList = rows.flatten) (hl : rows.length = ps.length) (hx : ∀ (j : Nat) q qs, ps[j]? = some q → rows[j]? = some qs → qs.length = 6 ∧ PartAt d P w q qs) : WordAt d P w (some ⟨N, 0, none⟩) ps.length ps := by
  have key : ∀ (rs : List (List Value)), (∀ r ∈ rs, r.length = 6) → ∀ (j : Nat) qs, rs[j]? = some qs → ∀ i u, qs[i]? = some u → rs.flatten[j * 6 + i]? = some u := by
    intro rs
    induction rs with
    | nil => intro _ j qs hj; simp at hj
    | cons r rs ih =>
      intro h6 j qs hj i u hu
      have hr : r.length = 6 := h6 r (List.mem_cons_self ..)
      rw [List.flatten_cons]
      match j, hj with
      | 0, hj =>
        simp only [List.getElem?_cons_zero, Option.some.injEq] at hj
        subst hj
        have hi : i < r.length := (List.getElem?_eq_some_iff.1 hu).1
        rw [Nat.zero_mul, Nat.zero_add, List.getElem?_append_left hi]
        exact hu
      | j + 1, hj =>
        rw [List.getElem?_append_right (by omega), show (j + 1) * 6 + i - r.length = j * 6 + i from by omega]
        exact ih (fun r hr => h6 r (List.mem_cons_of_mem _ hr)) j qs (by simpa using hj) i u hu
  have h6 : ∀ r ∈ rows, r.length = 6 := by
    intro r hr
    obtain ⟨j, hj, e⟩ := List.getElem_of_mem hr
    have hjp : j < ps.length := by omega
    exact (hx j ps[j] r (List.getElem?_eq_getElem hjp) (by rw [List.getElem?_eq_getElem hj, e])).1
  refine ⟨rfl, by omega, fun _ => ⟨_, rfl, hp, fun j q hq => ?_⟩⟩
  have hj : j < rows.length := by have := (List.getElem?_eq_some_iff.1 hq).1; omega
  obtain ⟨h7, h8⟩ := hx j q rows[j] hq (List.getElem?_eq_getElem hj)
  refine ⟨rows[j], h7, h8, fun i u hu => ?_⟩
  have h9 := key rows h6 j rows[j] (List.getElem?_eq_getElem hj) i u hu
  rw [← hcs, Array.getElem?_toList] at h9
  have h10 := (blk_cell h (j * 6 + i)).trans h9
  by_cases h0 : j * 6 + i = 0
  · rw [h0] at h10 ⊢; exact h10
  · rw [Addr.add, if_neg h0]; simpa using h10
theorem tab_below {w w' : World} (h : TabOk w) (hb : Below w.heap.size w w') : TabOk w' := tab_mod h (S := fun _ => False) (Mod.below hb) (fun e => e)

theorem works_1 : saidP [leaf 0 ⟨#[112]⟩ ⟨#[]⟩ false, leaf 2 ⟨#[120]⟩ ⟨#[]⟩ false, leaf 2 ⟨#[120]⟩ ⟨#[]⟩ true] ⟨lawL, lawA, 7, []⟩ = some ⟨#[91, 112, 40, 97, 32, 98, 41, 39, 97, 32, 98, 39, 93]⟩ := by kernel_rfl
theorem works_2 : saidP [leaf 2 ⟨#[64]⟩ ⟨#[]⟩ true] ⟨lawL, lawA, 7, []⟩ = some ⟨#[91, 39, 49, 39, 93, 91, 39, 50, 32, 51, 39, 93]⟩ := by kernel_rfl
theorem word_3 {d : Nat} {w : World} {N : Nat} {k1 k2 k3 : Int} {t1 o1 t2 o2 t3 o3 : B} {q1 q2 q3 : Bool} (h : w.heap[N]? = some (.cells #[.int .i64 k1, .string t1, .string o1, .bool q1, .slice none 0 0, .pointer none, .int .i64 k2, .string t2, .string o2, .bool q2, .slice none 0 0, .pointer none, .int .i64 k3, .string t3, .string o3, .bool q3, .slice none 0 0, .pointer none] 47 (0, 0))) :
    WordAt (d + 1) (fun _ => True) w (some ⟨N, 0, none⟩) 3 [leaf k1 t1 o1 q1, leaf k2 t2 o2 q2, leaf k3 t3 o3 q3] :=
  word_row (ps := [leaf k1 t1 o1 q1, leaf k2 t2 o2 q2, leaf k3 t3 o3 q3]) (rows := [[.int .i64 k1, .string t1, .string o1, .bool q1, .slice none 0 0, .pointer none], [.int .i64 k2, .string t2, .string o2, .bool q2, .slice none 0 0, .pointer none], [.int .i64 k3, .string t3, .string o3, .bool q3, .slice none 0 0, .pointer none]]) h trivial (by show (3 : Nat) ≤ 1000; omega) rfl rfl (fun j q qs h1 h2 => by
    match j, h1, h2 with
    | 0, h1, h2 => cases h1; cases h2; exact ⟨rfl, leaf_at _ _ _ _ _ _ _⟩
    | 1, h1, h2 => cases h1; cases h2; exact ⟨rfl, leaf_at _ _ _ _ _ _ _⟩
    | 2, h1, h2 => cases h1; cases h2; exact ⟨rfl, leaf_at _ _ _ _ _ _ _⟩)
theorem word_1 {d : Nat} {w : World} {N : Nat} {k1 : Int} {t1 o1 : B} {q1 : Bool} (h : w.heap[N]? = some (.cells #[.int .i64 k1, .string t1, .string o1, .bool q1, .slice none 0 0, .pointer none] 47 (0, 0))) :
    WordAt (d + 1) (fun _ => True) w (some ⟨N, 0, none⟩) 1 [leaf k1 t1 o1 q1] :=
  word_row (ps := [leaf k1 t1 o1 q1]) (rows := [[.int .i64 k1, .string t1, .string o1, .bool q1, .slice none 0 0, .pointer none]]) h trivial (by show (1 : Nat) ≤ 1000; omega) rfl rfl (fun j q qs h1 h2 => by
    match j, h1, h2 with
    | 0, h1, h2 => cases h1; cases h2; exact ⟨rfl, leaf_at _ _ _ _ _ _ _⟩)

set_option maxHeartbeats 3200000 in
set_option maxRecDepth 100000 in
theorem works_w (w : World) (hT : TabOk w) : Calls Tryd.prog 10 #[] w fun en w' => en = .returned (.bool true) ∧ Below w.heap.size w w' := by
  have HT := Lib.hid hT
  have F1 : Hid (0 = 0) := Lib.hid rfl
  have HB : Hid (Below w.heap.size w w) := Lib.hid (Below.refl _ _)
  clear hT
  go_enter Tryd.func10, Tryd.ntmps10
  go_wp2_with (first
    | (go_at_call 14; refine (lit_w _ _).mono ?_; rintro en w1 ⟨rfl, hb⟩; have HB' := Lib.hid (HB.out.trans (hb.mono HB.out.size)); clear HB hb; have HB := HB'; clear HB')
    | (go_at_call 13; refine (par_w _ _ _ _ _ _ _).mono ?_; rintro en w2 ⟨rfl, hb⟩; have HB' := Lib.hid (HB.out.trans (hb.mono HB.out.size)); clear HB hb; have HB := HB'; clear HB')
    | (go_at_call 16; refine (vars_w _).mono ?_; rintro en wv ⟨NL, A, c, rfl, hv, hb⟩; have HB' := Lib.hid ((HB.out.alloc HB.out.size _).trans (hb.mono (HB.out.alloc HB.out.size _).size)); have HR := Lib.hid (below_obj hb (heap_alloc_new _ _)); have HV := Lib.hid hv; clear HB hb hv; have HB := HB'; clear HB')
    | (go_at_call 17; clear F1; refine (said_w _ _ _ lawL lawA 7 _ _ _ _ _ _ HV.out (tab_below HT.out HB.out) (by decide) (word_3 (d := 0) HR.out) (by decide) works_1).mono ?_; rintro en ws ⟨rfl, hb⟩; have HB' := Lib.hid (HB.out.trans (hb.mono HB.out.size)); clear HB hb HV HR; have HB := HB'; clear HB')
    | (go_at_call 17; refine (said_w _ _ _ lawL lawA 7 _ _ _ _ _ _ HV.out (tab_below HT.out HB.out) (by decide) (word_1 (d := 0) HR.out) (by decide) works_2).mono ?_; rintro en ws ⟨rfl, hb⟩; have HB' := Lib.hid (HB.out.trans (hb.mono HB.out.size)); clear HB hb HV HR; have HB := HB'; clear HB'))
  go_ret
  exact ⟨rfl, HB.out⟩

end Go.Proofs.YthbnnlhkcaomlaaDoor.Ex

/- What the four rows share: the listed tables; the world in which they stand. -/
namespace Go.Proofs.YthbnnlhkcaomlaaDoor.Ex
open Go.ChangeShapes Go.WideShapes Go.ChangeAt Go.RowKit
theorem own : ownKnob Tryd.prog.godebug = none := by kernel_rfl
abbrev laid3 : List (String × DataW Unit) := [("math/bits.deBruijn32tab", Rows.laid_math_bits_deBruijn32tab), ("math/bits.deBruijn64tab", Rows.laid_math_bits_deBruijn64tab), ("internal/strconv.uint64pow10", Rows.laid_internal_strconv_uint64pow10)]
theorem gTab : Tryd.prog.globalNamed tabName = some 0 := by kernel_rfl
theorem tTab : (Tryd.prog.globals[0]?).map (·.type) = some 139 := by kernel_rfl
theorem laid_eq : (Rows.laid_internal_strconv_uint64pow10 : DataW Unit) = Lib.tabData .u64 Lib.pow10Tab := by kernel_rfl
/-- What the walks need of the row's condition. -/
theorem tab_of_laid {W : World} (h : laidMetH Tryd.prog laid3 W) : TabOk W := by
  rw [MakeChecks.laidMetH_plain _ _ _ (by kernel_rfl)] at h
  obtain ⟨ps, ⟨g0, t0, cs0, f0, p0, q0, hg0, ht0, hv0, hd0, ⟨g1, t1, cs1, f1, p1, q1, hg1, ht1, hv1, hd1, hl, _⟩, _⟩, _, _⟩ := h
  obtain ⟨g2, t2, cs2, f2, p2, q2, hg2, ht2, hv2, hd2, _, _⟩ := hl
  obtain rfl := Option.some.inj (gTab.symm.trans hg2)
  obtain rfl := Option.some.inj (tTab.symm.trans ht2)
  rw [laid_eq] at hd2
  unfold TabOk Lib.TabIs
  rw [show tabName = "internal/strconv.uint64pow10" from rfl, hv2, ← Lib.cells_of_tab (e := 125) (n := 20) (by kernel_rfl) (by kernel_rfl) (by kernel_rfl) (by kernel_rfl) hd2]
/-- The door's own heap meets the condition. -/
theorem door_met (os : Os) (args : Array Value) : laidMetH Tryd.prog laid3 ((World.doorLaid Tryd.prog 4000 os).forCall (fun _ _ => 0) ⟨#[], args, []⟩).memory :=
  laidMetH_of_parts3 (fuel := 8) (laidMet_of_run' 8 (by kernel_rfl) (by kernel_rfl)) (by kernel_rfl) (by kernel_rfl)
end Go.Proofs.YthbnnlhkcaomlaaDoor.Ex
