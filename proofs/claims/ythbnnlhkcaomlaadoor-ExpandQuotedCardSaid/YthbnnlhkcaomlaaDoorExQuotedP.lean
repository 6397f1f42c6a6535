/- What a quoted word comes to, as plain functions (ExpandQuoted). -/
import Derived.Test.YthbnnlhkcaomlaaDoorExTop
namespace Go.Proofs.YthbnnlhkcaomlaaDoor.Ex
open Go.RowKit Go.Shelf Go.Proofs.YthbnnlhkcaomlaaDoorW.PrintWords Go.Proofs.YthbnnlhkcaomlaaDoor.Gl

/-- A round of ExpandQuoted: the text between (if there is one), the variable's name, the operator, its value. -/
structure Itm where
  b : Option B
  nm : B
  op : B
  v : B
def neverW : List PartT := [leaf 0 ⟨#[110, 101, 118, 101, 114]⟩ ⟨#[]⟩ false]
def Itm.par (x : Itm) : PartT := .mk 2 x.nm x.op true neverW none
def Itm.quo (x : Itm) : List PartT := match x.b with | none => [] | some t => [leaf 1 t ⟨#[]⟩ true]
def Itm.parts (x : Itm) : List PartT := x.quo ++ [x.par]
def Itm.pre (x : Itm) : List Rn := match x.b with | none => [] | some t => [⟨t, true, false⟩]
def Itm.runs (x : Itm) : List Rn := x.pre ++ [⟨x.v, true, false⟩]
def Itm.text (x : Itm) : B := (match x.b with | none => ⟨#[]⟩ | some t => t) ++ x.v
def qOps : List B := [⟨#[]⟩, ⟨#[45]⟩, ⟨#[58, 63]⟩, ⟨#[61]⟩]
def opCol : B := ⟨#[58, 63]⟩
/-- The variable is found. -/
structure Itm.ok (x : Itm) (L : List (B × B)) : Prop where
  nm : x.nm.size = 2
  look : lookV L x.nm L.length = some x.v
  op : x.op ∈ qOps
  v : x.v.size ≤ 1000
def qE (L : List (B × B)) (seen : List B) : EnvT := ⟨L, [], 0, seen⟩

theorem size_ne {a b : B} (h : a.size ≠ b.size) : ¬ a = b := fun e => h (congrArg _ e)
theorem ask_q {x : Itm} {L : List (B × B)} {seen : List B} (h : x.ok L) (hs : seen.length < big) :
    askP (qE L seen) x.par = some (⟨x.par, x.v, true, [], hasColon x.op && decide (x.v = ⟨#[]⟩)⟩, qE L (seen ++ [(⟨#[103, 101, 116, 32]⟩ : B) ++ x.nm])) := by
  have h2 := h.nm
  have d1 : isDigit19 x.nm = false := by
    unfold isDigit19
    rw [decide_eq_false (by omega)]
    rfl
  have d2 : ¬ x.nm = ⟨#[35]⟩ := size_ne (by rw [h2]; decide)
  have d3 : ¬ x.nm = ⟨#[63]⟩ := size_ne (by rw [h2]; decide)
  have d4 : allP x.nm = false := by
    unfold allP
    rw [decide_eq_false (size_ne (by rw [h2]; decide)), decide_eq_false (size_ne (by rw [h2]; decide))]
    rfl
  have hg : getE (qE L seen) x.nm = some ((x.v, true), qE L (seen ++ [(⟨#[103, 101, 116, 32]⟩ : B) ++ x.nm])) := by
    unfold getE
    rw [if_pos (show x.nm.size ≤ bigT by rw [h2]; decide)]
    unfold seeE
    rw [if_pos (show (qE L seen).seen.length < big from hs)]
    simp only [Option.map_some]
    rw [show lookV (qE L seen).L x.nm (qE L seen).L.length = some x.v from h.look]
    rfl
  unfold askP
  have ha : askV (qE L seen) x.par.text = some ((x.v, true, []), qE L (seen ++ [(⟨#[103, 101, 116, 32]⟩ : B) ++ x.nm])) := by
    show askV (qE L seen) x.nm = _
    unfold askV
    rw [d1, if_neg (by simp), if_neg d2, if_neg d3, d4, if_neg (by simp), hg]
    rfl
  rw [ha]
  rfl
theorem known_q {op : B} (h : op ∈ qOps) : knownOp op = true := by
  unfold qOps at h
  simp only [List.mem_cons, List.not_mem_nil, or_false] at h
  rcases h with rfl | rfl | rfl | rfl <;> rfl
theorem meth_q {W : List PartT → EnvT → Option Ans} {x : Itm} {L : List (B × B)} {seen : List B} {acc : List Rn} (h : x.ok L) (hne : ¬ (x.op = opCol ∧ x.v = ⟨#[]⟩)) (ha : acc.length < big) :
    methodP W ⟨x.par, x.v, true, [], hasColon x.op && decide (x.v = ⟨#[]⟩)⟩ ⟨[], acc⟩ (qE L seen) = some (0, ⟨[], acc ++ [⟨x.v, true, false⟩]⟩, qE L seen) := by
  have ht : ∀ m, tellP ⟨x.par, x.v, true, [], m⟩ ⟨[], acc⟩ (qE L seen) = some (0, ⟨[], acc ++ [⟨x.v, true, false⟩]⟩, qE L seen) := by
    intro m
    unfold tellP putP
    rw [if_pos ha]
    rfl
  have hal : allP x.nm = false := by
    unfold allP
    rw [decide_eq_false (size_ne (by rw [h.nm]; decide)), decide_eq_false (size_ne (by rw [h.nm]; decide))]
    rfl
  obtain ⟨b, nm, op, v⟩ := x
  have hop := h.op
  unfold qOps at hop
  simp only [List.mem_cons, List.not_mem_nil, or_false] at hop
  rcases hop with rfl | rfl | rfl | rfl
  · show plainP _ _ _ = _
    unfold plainP
    rw [if_pos (by show (!allP nm || _) = true; rw [show allP nm = false from hal]; rfl)]
    exact ht _
  · refine Eq.trans (show methodP W ⟨Itm.par ⟨b, nm, ⟨#[45]⟩, v⟩, v, true, [], hasColon ⟨#[45]⟩ && decide (v = ⟨#[]⟩)⟩ ⟨[], acc⟩ (qE L seen) = orElseP W ⟨Itm.par ⟨b, nm, ⟨#[45]⟩, v⟩, v, true, [], hasColon ⟨#[45]⟩ && decide (v = ⟨#[]⟩)⟩ ⟨[], acc⟩ (qE L seen) from rfl) ?_
    unfold orElseP
    rw [if_neg (by show ¬ (hasColon ⟨#[45]⟩ && decide (v = ⟨#[]⟩)) = true; rw [show hasColon ⟨#[45]⟩ = false from rfl]; simp)]
    exact ht _
  · refine Eq.trans (show methodP W ⟨Itm.par ⟨b, nm, ⟨#[58, 63]⟩, v⟩, v, true, [], hasColon ⟨#[58, 63]⟩ && decide (v = ⟨#[]⟩)⟩ ⟨[], acc⟩ (qE L seen) = mustP ⟨Itm.par ⟨b, nm, ⟨#[58, 63]⟩, v⟩, v, true, [], hasColon ⟨#[58, 63]⟩ && decide (v = ⟨#[]⟩)⟩ ⟨[], acc⟩ (qE L seen) from rfl) ?_
    unfold mustP
    rw [if_neg (by
      show ¬ (hasColon ⟨#[58, 63]⟩ && decide (v = ⟨#[]⟩)) = true
      rw [Bool.and_eq_true, decide_eq_true_iff]
      exact fun e => hne ⟨rfl, e.2⟩)]
    exact ht _
  · refine Eq.trans (show methodP W ⟨Itm.par ⟨b, nm, ⟨#[61]⟩, v⟩, v, true, [], hasColon ⟨#[61]⟩ && decide (v = ⟨#[]⟩)⟩ ⟨[], acc⟩ (qE L seen) = assignP W ⟨Itm.par ⟨b, nm, ⟨#[61]⟩, v⟩, v, true, [], hasColon ⟨#[61]⟩ && decide (v = ⟨#[]⟩)⟩ ⟨[], acc⟩ (qE L seen) from rfl) ?_
    unfold assignP
    rw [if_neg (by show ¬ (hasColon ⟨#[61]⟩ && decide (v = ⟨#[]⟩)) = true; rw [show hasColon ⟨#[61]⟩ = false from rfl]; simp)]
    exact ht _
theorem par_q {W : List PartT → EnvT → Option Ans} {x : Itm} {L : List (B × B)} {seen : List B} {acc : List Rn} (h : x.ok L) (hs : seen.length < big) (ha : acc.length < big) (hne : ¬ (x.op = opCol ∧ x.v = ⟨#[]⟩)) :
    paramP W x.par ⟨[], acc⟩ (qE L seen) = some (0, ⟨[], acc ++ [⟨x.v, true, false⟩]⟩, qE L (seen ++ [(⟨#[103, 101, 116, 32]⟩ : B) ++ x.nm])) := by
  unfold paramP
  rw [ask_q h hs]
  simp only [Option.bind_some]
  rw [if_pos (show knownOp x.par.op = true from known_q h.op), if_pos ⟨by have := h.v; show x.v.size ≤ bigT; unfold bigT; omega, by show 0 < big; decide⟩]
  exact meth_q h hne ha
theorem par_bad {W : List PartT → EnvT → Option Ans} {x : Itm} {L : List (B × B)} {seen : List B} {y : FT} (h : x.ok L) (hs : seen.length < big) (hne : x.op = opCol ∧ x.v = ⟨#[]⟩) :
    paramP W x.par y (qE L seen) = some (2, y, qE L (seen ++ [(⟨#[103, 101, 116, 32]⟩ : B) ++ x.nm])) := by
  unfold paramP
  rw [ask_q h hs]
  simp only [Option.bind_some]
  rw [if_pos (show knownOp x.par.op = true from known_q h.op), if_pos ⟨by have := h.v; show x.v.size ≤ bigT; unfold bigT; omega, by show 0 < big; decide⟩]
  obtain ⟨b, nm, op, v⟩ := x
  obtain ⟨rfl, rfl⟩ : op = opCol ∧ v = ⟨#[]⟩ := hne
  rfl
theorem loop_quo {W : List PartT → EnvT → Option Ans} {x : Itm} {rest : List PartT} {acc : List Rn} {e : EnvT} (ha : acc.length < big) : loopP W 1 (x.quo ++ rest) ⟨[], acc⟩ e = loopP W 1 rest ⟨[], acc ++ x.pre⟩ e := by
  obtain ⟨b, nm, op, v⟩ := x
  cases b with
  | none =>
    show loopP W 1 rest ⟨[], acc⟩ e = loopP W 1 rest ⟨[], acc ++ []⟩ e
    rw [List.append_nil]
  | some t =>
    have hq : quotedP (leaf 1 t ⟨#[]⟩ true) ⟨[], acc⟩ e = some (0, ⟨[], acc ++ [⟨t, true, false⟩]⟩, e) := by
      unfold quotedP putP
      rw [if_pos ha]
      rfl
    show loopP W 1 (leaf 1 t ⟨#[]⟩ true :: rest) ⟨[], acc⟩ e = _
    rw [loopP, if_neg (by show ¬ ((1 : Int) < 0 ∨ 3 < (1 : Int)); decide)]
    unfold partP
    rw [if_neg (by show ¬ (1 : Int) = 0; decide), if_pos (show (leaf 1 t ⟨#[]⟩ true).kind = 1 from rfl), hq]
    rfl
theorem loop_par {W : List PartT → EnvT → Option Ans} {x : Itm} {rest : List PartT} {acc : List Rn} {L : List (B × B)} {seen : List B} (h : x.ok L) (hs : seen.length < big) (ha : acc.length < big) (hne : ¬ (x.op = opCol ∧ x.v = ⟨#[]⟩)) :
    loopP W 1 (x.par :: rest) ⟨[], acc⟩ (qE L seen) = loopP W 1 rest ⟨[], acc ++ [⟨x.v, true, false⟩]⟩ (qE L (seen ++ [(⟨#[103, 101, 116, 32]⟩ : B) ++ x.nm])) := by
  rw [loopP, if_neg (by show ¬ ((2 : Int) < 0 ∨ 3 < (2 : Int)); decide)]
  unfold partP
  rw [if_neg (by show ¬ (2 : Int) = 0; decide), if_neg (by show ¬ (2 : Int) = 1; decide), if_pos (show x.par.kind = 2 from rfl), par_q h hs ha hne]
  rfl
theorem loop_bad {W : List PartT → EnvT → Option Ans} {x : Itm} {rest : List PartT} {y : FT} {L : List (B × B)} {seen : List B} (h : x.ok L) (hs : seen.length < big) (hne : x.op = opCol ∧ x.v = ⟨#[]⟩) :
    loopP W 1 (x.par :: rest) y (qE L seen) = some ([], 2, qE L (seen ++ [(⟨#[103, 101, 116, 32]⟩ : B) ++ x.nm])) := by
  rw [loopP, if_neg (by show ¬ ((2 : Int) < 0 ∨ 3 < (2 : Int)); decide)]
  unfold partP
  rw [if_neg (by show ¬ (2 : Int) = 0; decide), if_neg (by show ¬ (2 : Int) = 1; decide), if_pos (show x.par.kind = 2 from rfl), par_bad h hs hne]
  rfl
/-- All rounds: their runs, one behind the other. -/
theorem loop_items {W : List PartT → EnvT → Option Ans} {L : List (B × B)} {rest : List PartT} : ∀ (l : List Itm) (acc : List Rn) (seen : List B), (∀ x ∈ l, x.ok L ∧ ¬ (x.op = opCol ∧ x.v = ⟨#[]⟩)) → acc.length + 2 * l.length < big → seen.length + l.length < big →
    ∃ seen', seen'.length = seen.length + l.length ∧ loopP W 1 (l.flatMap Itm.parts ++ rest) ⟨[], acc⟩ (qE L seen) = loopP W 1 rest ⟨[], acc ++ l.flatMap Itm.runs⟩ (qE L seen')
  | [], acc, seen, _, _, _ => ⟨seen, rfl, by simp⟩
  | x :: l, acc, seen, h, ha, hs => by
    have hx := h x (List.mem_cons_self ..)
    have hpl : (acc ++ x.pre).length ≤ acc.length + 1 := by
      obtain ⟨b, nm, op, v⟩ := x
      cases b <;> simp [Itm.pre]
    rw [List.length_cons] at ha hs
    obtain ⟨seen', h1, h2⟩ := loop_items (W := W) (rest := rest) l ((acc ++ x.pre) ++ [⟨x.v, true, false⟩]) (seen ++ [(⟨#[103, 101, 116, 32]⟩ : B) ++ x.nm]) (fun z hz => h z (List.mem_cons_of_mem _ hz)) (by rw [List.length_append, List.length_singleton]; omega) (by rw [List.length_append, List.length_singleton]; omega)
    refine ⟨seen', by rw [h1, List.length_append, List.length_singleton, List.length_cons]; omega, ?_⟩
    rw [List.flatMap_cons, Itm.parts, List.append_assoc, List.append_assoc, loop_quo (by omega), List.singleton_append, loop_par hx.1 (by omega) (by omega) hx.2, h2]
    rw [List.flatMap_cons, Itm.runs, List.append_assoc, List.append_assoc, List.append_assoc]
theorem expand_items {L : List (B × B)} (l : List Itm) (h : ∀ x ∈ l, x.ok L ∧ ¬ (x.op = opCol ∧ x.v = ⟨#[]⟩)) (hl : l.length ≤ 1000) :
    ∃ e', expandP 20 1 (l.flatMap Itm.parts) (qE L []) = some ([l.flatMap Itm.runs], 0, e') := by
  obtain ⟨seen', _, h2⟩ := loop_items (W := expandP 19 2) (rest := []) l [] [] h (by unfold big; simp; omega) (by unfold big; simp; omega)
  refine ⟨qE L seen', ?_⟩
  rw [List.append_nil] at h2
  exact h2
theorem expand_bad {L : List (B × B)} (l : List Itm) (x : Itm) (h : ∀ z ∈ l, z.ok L ∧ ¬ (z.op = opCol ∧ z.v = ⟨#[]⟩)) (hx : x.ok L) (hb : x.op = opCol ∧ x.v = ⟨#[]⟩) (hl : l.length ≤ 1000) :
    ∃ e', expandP 20 1 ((l ++ [x]).flatMap Itm.parts) (qE L []) = some ([], 2, e') := by
  obtain ⟨seen', h1, h2⟩ := loop_items (W := expandP 19 2) (rest := x.parts) l [] [] h (by unfold big; simp; omega) (by unfold big; simp; omega)
  have hal : (l.flatMap Itm.runs).length ≤ 2 * l.length := by
    clear h h2 h1 hl
    induction l with
    | nil => simp
    | cons z l ih =>
      rw [List.flatMap_cons, List.length_append, List.length_cons]
      have : z.runs.length ≤ 2 := by
        obtain ⟨b, nm, op, v⟩ := z
        cases b <;> simp [Itm.runs, Itm.pre]
      omega
  refine ⟨qE L (seen' ++ [(⟨#[103, 101, 116, 32]⟩ : B) ++ x.nm]), ?_⟩
  rw [List.flatMap_append, show [x].flatMap Itm.parts = x.parts from by simp]
  show loopP (expandP 19 2) 1 _ ⟨[], []⟩ (qE L []) = _
  rw [h2, Itm.parts, loop_quo (by simp only [List.nil_append]; unfold big; omega), loop_bad hx (by rw [h1]; unfold big; simp; omega) hb]
theorem nil_app (v : B) : (⟨#[]⟩ : B) ++ v = v := by
  apply ByteArray.ext
  simp [ByteArray.data_append]
/-- The runs' texts, and the texts. -/
theorem runs_text : ∀ (l : List Itm) (s : B), (l.flatMap Itm.runs).foldl (fun a r => a ++ r.t) s = l.foldl (fun a x => a ++ x.text) s
  | [], _ => rfl
  | x :: l, s => by
    rw [List.flatMap_cons, List.foldl_append, List.foldl_cons, ← runs_text l]
    congr 1
    obtain ⟨b, nm, op, v⟩ := x
    cases b with
    | none => simp [Itm.runs, Itm.pre, Itm.text, nil_app]
    | some t => simp [Itm.runs, Itm.pre, Itm.text, ByteArray.append_assoc]
theorem runs_quoted (l : List Itm) : ∀ r ∈ l.flatMap Itm.runs, r.q = true ∧ r.s = false := by
  intro r hr
  obtain ⟨x, _, hx⟩ := List.mem_flatMap.1 hr
  obtain ⟨b, nm, op, v⟩ := x
  cases b with
  | none =>
    simp [Itm.runs, Itm.pre] at hx
    subst hx
    exact ⟨rfl, rfl⟩
  | some t =>
    simp [Itm.runs, Itm.pre] at hx
    rcases hx with rfl | rfl <;> exact ⟨rfl, rfl⟩
/-- The variables of the first rounds: their names differ. -/
def nameB (j : Nat) : B := ⟨#[118, UInt8.ofNat (97 + j)]⟩
theorem name_ne {i j : Nat} (hi : i < 8) (hj : j < 8) (h : nameB i = nameB j) : i = j := by
  have h1 : UInt8.ofNat (97 + i) = UInt8.ofNat (97 + j) := by
    have := congrArg (fun b : B => b.data.toList[1]?) h
    simpa [nameB] using this
  have h2 := congrArg UInt8.toNat h1
  rw [UInt8.toNat_ofNat_of_lt' (by show 97 + i < 256; omega), UInt8.toNat_ofNat_of_lt' (by show 97 + j < 256; omega)] at h2
  omega
theorem look_at {L : List (B × B)} (hL : ∀ (i : Nat) p, L[i]? = some p → p.1 = nameB i) (hn : L.length ≤ 8) {j : Nat} {v : B} (hj : L[j]? = some (nameB j, v)) : ∀ n, n ≤ L.length → j < n → lookV L (nameB j) n = some v
  | 0, _, h => absurd h (by omega)
  | n + 1, hle, h => by
    have hg : L[n]? = some L[n] := List.getElem?_eq_getElem (by omega)
    unfold lookV
    rw [List.getD_eq_getElem?_getD, hg]
    simp only [Option.getD_some]
    by_cases e : n = j
    · subst e
      rw [hj] at hg
      rw [← Option.some.inj hg, if_pos rfl]
    · rw [if_neg (fun e2 => e (name_ne (by omega) (by omega) (by rw [← hL n _ hg]; exact e2)))]
      exact look_at hL hn hj n (by omega) (by omega)

end Go.Proofs.YthbnnlhkcaomlaaDoor.Ex
