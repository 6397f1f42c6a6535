/- The walks of the environment's methods. -/
import Derived.Test.YthbnnlhkcaomlaaDoorExAt
import Derived.WalkKit
import Derived.BigQuiet
import Derived.Deep.QuietTactic
import Derived.Deep.RegionHeld3
namespace Go.Proofs.YthbnnlhkcaomlaaDoor.Ex
open Go.RowKit Go.Shelf Go.Proofs.YthbnnlhkcaomlaaDoorW.PrintWords Go.Proofs.YthbnnlhkcaomlaaDoor.Gl

theorem inStr : (Tryd.prog.info? 9).map (fun i => (i.zero, i.size, i.bytes)) = some (some (.string ⟨#[]⟩), 1, 16) := by kernel_rfl
theorem inVar : (Tryd.prog.info? 44).map (fun i => (i.zero, i.size, i.bytes)) = some (some (.agg #[.string ⟨#[]⟩, .string ⟨#[]⟩]), 2, 32) := by kernel_rfl
theorem inRn : (Tryd.prog.info? 40).map (fun i => (i.zero, i.size, i.bytes)) = some (some (.agg #[.string ⟨#[]⟩, .bool false, .bool false]), 3, 24) := by kernel_rfl
theorem inSl : (Tryd.prog.info? 38).map (fun i => (i.zero, i.size, i.bytes)) = some (some (.slice none 0 0), 1, 24) := by kernel_rfl

theorem own_base {w : World} {base size n : Nat} {e : TypeId} {v : Value} {xs : List Value} (h : w.ownsRow base e size v n xs) : w.ownsRow 0 e size v n xs := by
  refine ⟨h.1, ?_⟩
  rcases h.2 with hn | ⟨g, cap, cur, e, hb, r⟩
  · exact .inl hn
  · exact .inr ⟨g, cap, cur, e, Nat.zero_le _, r⟩
theorem reps_vars_at {w : World} {ok : Nat → Prop} : ∀ (l done : List (B × B)) (cs : List Value), Reps (kVar.M w 0 ok) kVar.sz done cs → Reps (kVar.M w 0 ok) kVar.sz (done ++ l) (cs ++ l.flatMap fun x : B × B => [Value.string x.1, Value.string x.2])
  | [], done, cs, h => by simpa using h
  | x :: l, done, cs, h => by
    have h2 := reps_vars_at l (done ++ [x]) (cs ++ [.string x.1, .string x.2]) (Reps.snoc h (kVar_M w 0 ok x) rfl)
    rw [List.append_assoc, List.append_assoc] at h2
    exact h2
theorem reps_vars {w : World} {ok : Nat → Prop} (l : List (B × B)) : Reps (kVar.M w 0 ok) kVar.sz l (l.flatMap fun x : B × B => [Value.string x.1, Value.string x.2]) := by
  have h := reps_vars_at (w := w) (ok := ok) l [] [] (Reps.none _ _)
  simpa using h
section
variable {ops : Array Oper} {rest : List Oper} {o : Oper} {a : Act} {Q : Exit → Act → World → Prop} {W : World}
theorem ap_str (hgd : o.guard = none) (s x : Operand) (ho : o.op = .call { callee := .builtin .append, args := #[s, x], argTypes := #[24, 24] }) (v : Value) (xs : List B) (p : B) (hs : a.eval s = v) {N : Nat} (hx : a.eval x = .slice (some ⟨N, 0, none⟩) 1 1) (hN : N = W.heap.size)
    (HO : Own Kd.string 9 W v xs) (hl : xs.length < big)
    (h : ∀ A1 n1 c1 w1, Own Kd.string 9 w1 (.slice A1 n1 c1) (xs ++ [p]) → W.grownBy w1 v.ownBlock → ((Value.slice A1 n1 c1).ownBlock = v.ownBlock ∨ ∃ b, (Value.slice A1 n1 c1).ownBlock = some b ∧ W.heap.size ≤ b) → wpList Tryd.prog ops Q rest (a.put o.dst (.slice A1 n1 c1)) w1) :
    wpList Tryd.prog ops Q (o :: rest) a (W.alloc (.cells #[.string p] 9)) :=
  Kd.R_append Kd.string (w0 := W) 0 hgd s x 24 9 (.string ⟨#[]⟩) 16 ho Tryd.underlying24 inStr rfl (by decide) (by decide) v xs p [.string p] yes (fun _ => False) hs (hN ▸ hx) rfl (fun _ h => h.elim) (fun _ _ => trivial) HO (Below.refl _ _) (Nat.zero_le _)
    (by unfold big at hl; omega) (fun v1 w1 hr _ hg hat => by obtain ⟨A1, c1, rfl⟩ := Kd.R_slice hr; exact h A1 _ c1 w1 hr hg hat)
theorem ap_var (hgd : o.guard = none) (s x : Operand) (ho : o.op = .call { callee := .builtin .append, args := #[s, x], argTypes := #[23, 23] }) (v : Value) (xs : List (B × B)) (p : B × B) (hs : a.eval s = v) {N : Nat} (hx : a.eval x = .slice (some ⟨N, 0, none⟩) 1 1) (hN : N = W.heap.size)
    (HO : Own kVar 44 W v xs) (hl : xs.length < big)
    (h : ∀ A1 n1 c1 w1, Own kVar 44 w1 (.slice A1 n1 c1) (xs ++ [p]) → W.grownBy w1 v.ownBlock → ((Value.slice A1 n1 c1).ownBlock = v.ownBlock ∨ ∃ b, (Value.slice A1 n1 c1).ownBlock = some b ∧ W.heap.size ≤ b) → wpList Tryd.prog ops Q rest (a.put o.dst (.slice A1 n1 c1)) w1) :
    wpList Tryd.prog ops Q (o :: rest) a (W.alloc (.cells #[.string p.1, .string p.2] 44)) :=
  Kd.R_append kVar (w0 := W) 0 hgd s x 23 44 (.agg #[.string ⟨#[]⟩, .string ⟨#[]⟩]) 32 ho Tryd.underlying23 inVar rfl (by decide) (by decide) v xs p [.string p.1, .string p.2] yes (fun _ => False) hs (hN ▸ hx) (kVar_M _ _ _ _) (fun _ h => h.elim) (fun _ _ => trivial) HO (Below.refl _ _) (Nat.zero_le _)
    (by unfold big at hl; omega) (fun v1 w1 hr _ hg hat => by obtain ⟨A1, c1, rfl⟩ := Kd.R_slice hr; exact h A1 _ c1 w1 hr hg hat)
theorem ap_var_full (hgd : o.guard = none) (s x : Operand) (ho : o.op = .call { callee := .builtin .append, args := #[s, x], argTypes := #[23, 23] }) (b : Nat) (xs : List (B × B)) (p : B × B) (hs : a.eval s = .slice (some ⟨b, 0, none⟩) xs.length xs.length) {N : Nat} (hx : a.eval x = .slice (some ⟨N, 0, none⟩) 1 1) (hN : N = W.heap.size)
    (HO : kVar.C W (some ⟨b, 0, none⟩) xs.length xs) (hl : xs.length < big)
    (h : ∀ A1 n1 c1 w1, Own kVar 44 w1 (.slice A1 n1 c1) (xs ++ [p]) → W.grownBy w1 none → (∃ b, (Value.slice A1 n1 c1).ownBlock = some b ∧ W.heap.size ≤ b) → wpList Tryd.prog ops Q rest (a.put o.dst (.slice A1 n1 c1)) w1) :
    wpList Tryd.prog ops Q (o :: rest) a (W.alloc (.cells #[.string p.1, .string p.2] 44)) := by
  obtain ⟨i, hi, hzero, hsize, hbytes⟩ : ∃ i, Tryd.prog.info? 44 = some i ∧ i.zero = some (.agg #[.string ⟨#[]⟩, .string ⟨#[]⟩]) ∧ i.size = 2 ∧ i.bytes = 32 := by
    have h1 := inVar
    rw [Option.map_eq_some_iff] at h1
    obtain ⟨i, h2, h3⟩ := h1
    simp only [Prod.mk.injEq] at h3
    exact ⟨i, h2, h3.1, h3.2.1, h3.2.2⟩
  subst hN
  have hlen : (xs.flatMap fun x : B × B => [Value.string x.1, Value.string x.2]).length = xs.length * 2 := by
    clear HO hs hl h
    induction xs with
    | nil => rfl
    | cons y ys ih => rw [List.flatMap_cons, List.length_append, ih]; simp; omega
  have hat : ∀ (l : List (B × B)) (j : Nat) (u : Value), (l.flatMap fun x : B × B => [Value.string x.1, Value.string x.2])[j]? = some u → ∃ q, l[j / 2]? = some q ∧ [Value.string q.1, Value.string q.2][j % 2]? = some u := by
    intro l
    induction l with
    | nil => intro j u hj; simp at hj
    | cons y ys ih =>
      intro j u hj
      rw [List.flatMap_cons] at hj
      match j, hj with
      | 0, hj => exact ⟨y, rfl, hj⟩
      | 1, hj => exact ⟨y, rfl, hj⟩
      | j + 2, hj =>
        obtain ⟨q, h1, h2⟩ := ih j u hj
        refine ⟨q, ?_, ?_⟩
        · rw [show (j + 2) / 2 = j / 2 + 1 from by omega]; exact h1
        · rw [show (j + 2) % 2 = j % 2 from by omega]; exact h2
  have hold : ∀ j u, (xs.flatMap fun x : B × B => [Value.string x.1, Value.string x.2])[j]? = some u → (W.alloc (.cells #[.string p.1, .string p.2] 44)).cell? ((⟨b, 0, none⟩ : Addr).add j) = some u := by
    intro j u hj
    obtain ⟨q, h1, h2⟩ := hat xs j u hj
    have hlt := (List.getElem?_eq_some_iff.1 h1).1
    obtain ⟨ad, e, hc⟩ := HO.2.2 (by omega)
    cases e
    obtain ⟨cs, _, hr, hcell⟩ := hc (j / 2) q h1
    obtain rfl := kVar_K hr
    have h3 := hcell (j % 2) u h2
    rw [show j / 2 * kVar.sz + j % 2 = j from by show j / 2 * 2 + j % 2 = j; omega] at h3
    exact pw_cell_below ((Below.refl W.heap.size W).alloc (Nat.le_refl _) _) h3
  have hnew : ∀ j u, ([Value.string p.1, Value.string p.2] : List Value)[j]? = some u → (W.alloc (.cells #[.string p.1, .string p.2] 44)).cell? ((⟨W.heap.size, 0, none⟩ : Addr).add j) = some u := by
    intro j u hj
    rw [show ((⟨W.heap.size, 0, none⟩ : Addr).add j) = ⟨W.heap.size, j, none⟩ from by
      by_cases h : j = 0
      · subst h; rfl
      · simp [Addr.add, h]]
    exact (blk_cell (heap_alloc_new W _) j).trans (by simpa using hj)
  refine wpList_append_grows _ hgd s x 23 ho 44 i _ 2 32 Tryd.underlying23 hi hzero hsize hbytes rfl (by decide) (some ⟨b, 0, none⟩) xs.length xs.length (xs.flatMap fun x : B × B => [Value.string x.1, Value.string x.2]) hs (fun e => by cases e) hlen (fun b' e => by cases e; exact hold) ⟨W.heap.size, 0, none⟩ 1 1 [.string p.1, .string p.2] hx rfl hnew (fun u hu => by simp at hu; rcases hu with rfl | rfl <;> rfl) (Nat.lt_succ_self _) (by unfold big at hl; unfold maxLen; omega) (by unfold big at hl; omega) ?_
  intro v1 w1 hown hg
  have hR : Own kVar 44 w1 v1 (xs ++ [p]) := by
    refine ⟨fun _ _ => trivial, (xs ++ [p]).flatMap fun x : B × B => [Value.string x.1, Value.string x.2], ?_, ?_⟩
    · have h1 : w1.ownsRow 0 44 2 v1 (xs.length + 1) ((xs.flatMap fun x : B × B => [Value.string x.1, Value.string x.2]) ++ [.string p.1, .string p.2]) := own_base hown
      rw [List.length_append, List.length_singleton, List.flatMap_append]
      exact h1
    · exact reps_vars (xs ++ [p])
  obtain ⟨A1, c1, rfl⟩ := Kd.R_slice hR
  refine h A1 _ c1 w1 hR ⟨hg.os, hg.tape, hg.output, Nat.le_trans (by simp) hg.size, fun k hk hn => (hg.block k (by simp; omega) hn).trans (heap_alloc_old W _ hk)⟩ ?_
  obtain ⟨g', cap, e, hb, _⟩ := hown.form (Nat.succ_pos _)
  exact ⟨g', by rw [e]; simp [Value.ownBlock], Nat.le_trans (by simp) hb⟩
theorem ap_rn (hgd : o.guard = none) (s x : Operand) (ho : o.op = .call { callee := .builtin .append, args := #[s, x], argTypes := #[38, 38] }) (v : Value) (xs : List Rn) (p : Rn) (hs : a.eval s = v) {N : Nat} (hx : a.eval x = .slice (some ⟨N, 0, none⟩) 1 1) (hN : N = W.heap.size)
    (HO : Own kRn 40 W v xs) (hl : xs.length < big)
    (h : ∀ A1 n1 c1 w1, Own kRn 40 w1 (.slice A1 n1 c1) (xs ++ [p]) → W.grownBy w1 v.ownBlock → ((Value.slice A1 n1 c1).ownBlock = v.ownBlock ∨ ∃ b, (Value.slice A1 n1 c1).ownBlock = some b ∧ W.heap.size ≤ b) → wpList Tryd.prog ops Q rest (a.put o.dst (.slice A1 n1 c1)) w1) :
    wpList Tryd.prog ops Q (o :: rest) a (W.alloc (.cells #[.string p.t, .bool p.q, .bool p.s] 40)) :=
  Kd.R_append kRn (w0 := W) 0 hgd s x 38 40 (.agg #[.string ⟨#[]⟩, .bool false, .bool false]) 24 ho Tryd.underlying38 inRn rfl (by decide) (by decide) v xs p [.string p.t, .bool p.q, .bool p.s] yes (fun _ => False) hs (hN ▸ hx) (kRn_M _ _ _ _) (fun _ h => h.elim) (fun _ _ => trivial) HO (Below.refl _ _) (Nat.zero_le _)
    (by unfold big at hl; omega) (fun v1 w1 hr _ hg hat => by obtain ⟨A1, c1, rfl⟩ := Kd.R_slice hr; exact h A1 _ c1 w1 hr hg hat)
theorem ap_sl (hgd : o.guard = none) (s x : Operand) (ho : o.op = .call { callee := .builtin .append, args := #[s, x], argTypes := #[32, 32] }) (v : Value) (xs : List Sl) (p : Sl) (hs : a.eval s = v) {N : Nat} (hx : a.eval x = .slice (some ⟨N, 0, none⟩) 1 1) (hN : N = W.heap.size)
    (HO : Own kSl 38 W v xs) (hl : xs.length ≤ big)
    (h : ∀ A1 n1 c1 w1, Own kSl 38 w1 (.slice A1 n1 c1) (xs ++ [p]) → W.grownBy w1 v.ownBlock → ((Value.slice A1 n1 c1).ownBlock = v.ownBlock ∨ ∃ b, (Value.slice A1 n1 c1).ownBlock = some b ∧ W.heap.size ≤ b) → wpList Tryd.prog ops Q rest (a.put o.dst (.slice A1 n1 c1)) w1) :
    wpList Tryd.prog ops Q (o :: rest) a (W.alloc (.cells #[p.v] 38)) :=
  Kd.R_append kSl (w0 := W) 0 hgd s x 32 38 (.slice none 0 0) 24 ho Tryd.underlying32 inSl rfl (by decide) (by decide) v xs p [p.v] yes (fun _ => False) hs (hN ▸ hx) rfl (fun _ h => h.elim) (fun _ _ => trivial) HO (Below.refl _ _) (Nat.zero_le _)
    (by unfold big at hl; omega) (fun v1 w1 hr _ hg hat => by obtain ⟨A1, c1, rfl⟩ := Kd.R_slice hr; exact h A1 _ c1 w1 hr hg hat)
theorem ap_strs (hgd : o.guard = none) (s x : Operand) (ho : o.op = .call { callee := .builtin .append, args := #[s, x], argTypes := #[24, 24] }) (v : Value) (xs ys : List B) (A : Option Addr) (m c : Nat) (hs : a.eval s = v) (hx : a.eval x = .slice A m c)
    (HO : Own Kd.string 9 W v xs) (HR : Kd.string.C W A m ys) (hl : xs.length + m ≤ 2 * big)
    (h : ∀ A1 n1 c1 w1, Own Kd.string 9 w1 (.slice A1 n1 c1) (xs ++ ys) → W.grownBy w1 v.ownBlock → ((Value.slice A1 n1 c1).ownBlock = v.ownBlock ∨ ∃ b, (Value.slice A1 n1 c1).ownBlock = some b ∧ W.heap.size ≤ b) → wpList Tryd.prog ops Q rest (a.put o.dst (.slice A1 n1 c1)) w1) :
    wpList Tryd.prog ops Q (o :: rest) a W :=
  Kd.R_append_rows Kd.string (Rr := Kd.string.K W) (w0 := W) 0 hgd s x 24 9 (.string ⟨#[]⟩) 16 ho Tryd.underlying24 inStr rfl (by decide) (by decide) v xs ys A m c yes (fun _ => False) hs hx HO HR (fun _ _ h => h) (fun _ h => h.elim) (fun _ _ => trivial) (Below.refl _ _) (Nat.zero_le _)
    (by unfold big at hl; omega) (fun v1 w1 hr _ hg hat => by obtain ⟨A1, c1, rfl⟩ := Kd.R_slice hr; exact h A1 _ c1 w1 hr hg hat)
theorem ap_rns (hgd : o.guard = none) (s x : Operand) (ho : o.op = .call { callee := .builtin .append, args := #[s, x], argTypes := #[38, 38] }) (v : Value) (xs ys : List Rn) (A : Option Addr) (m c : Nat) (hs : a.eval s = v) (hx : a.eval x = .slice A m c)
    (HO : Own kRn 40 W v xs) (HR : kRn.C W A m ys) (hl : xs.length + m ≤ 4 * big)
    (h : ∀ A1 n1 c1 w1, Own kRn 40 w1 (.slice A1 n1 c1) (xs ++ ys) → W.grownBy w1 v.ownBlock → ((Value.slice A1 n1 c1).ownBlock = v.ownBlock ∨ ∃ b, (Value.slice A1 n1 c1).ownBlock = some b ∧ W.heap.size ≤ b) → wpList Tryd.prog ops Q rest (a.put o.dst (.slice A1 n1 c1)) w1) :
    wpList Tryd.prog ops Q (o :: rest) a W :=
  Kd.R_append_rows kRn (Rr := kRn.K W) (w0 := W) 0 hgd s x 38 40 (.agg #[.string ⟨#[]⟩, .bool false, .bool false]) 24 ho Tryd.underlying38 inRn rfl (by decide) (by decide) v xs ys A m c yes (fun _ => False) hs hx HO HR (fun _ _ h => h) (fun _ h => h.elim) (fun _ _ => trivial) (Below.refl _ _) (Nat.zero_le _)
    (by unfold big at hl; omega) (fun v1 w1 hr _ hg hat => by obtain ⟨A1, c1, rfl⟩ := Kd.R_slice hr; exact h A1 _ c1 w1 hr hg hat)
/-- A literal without elements. -/
theorem own_empty {α : Type} (d : Kd α) (t : Nat) (W : World) {N : Nat} (hN : N = W.heap.size) : Own d t (W.alloc (.cells #[] t)) (.slice (some ⟨N, 0, none⟩) 0 0) [] := by
  subst hN
  exact ⟨fun _ _ => trivial, [], by
    have h := World.ownsRow_lit (base := 0) (e := t) (size := d.sz) W #[] 0 (Nat.zero_le _) (by decide) (by simp)
    simpa using h, Reps.none _ _⟩
end

section
variable {E : Nat → Prop} {w w1 : World} {g : Nat} {e : EnvT} {lv : Value} {A : Option Addr} {c : Nat} {sv v1 : Value}
/-- The environment's cells, as the walk reads them. -/
structure EnvCells (w : World) (g : Nat) (e : EnvT) (lv : Value) (A : Option Addr) (c : Nat) (sv : Value) : Prop where
  c0 : w.cell? ⟨g, 0, none⟩ = some lv
  c1 : w.cell? ⟨g, 1, none⟩ = some (.slice A e.args.length c)
  c2 : w.cell? ⟨g, 2, none⟩ = some (.int .i64 e.status)
  c3 : w.cell? ⟨g, 3, none⟩ = some sv
  f0 : w.frozen? ⟨g, 0, none⟩ = false
  f3 : w.frozen? ⟨g, 3, none⟩ = false
  lt : g < w.heap.size
theorem cells_of (hb : w.heap[g]? = some (.cells #[lv, .slice A e.args.length c, .int .i64 e.status, sv] 31 (0, 0))) : EnvCells w g e lv A c sv :=
  ⟨(blk_cell hb 0).trans rfl, (blk_cell hb 1).trans rfl, (blk_cell hb 2).trans rfl, (blk_cell hb 3).trans rfl, blk_frozen hb 0, blk_frozen hb 3, obj_lt hb⟩
theorem blk_ty {k : Nat} {cs : Array Value} {t : TypeId} (h : w.heap[k]? = some (.cells cs t (0, 0))) : Ty w k t := ⟨cs, (0, 0), h⟩

theorem env_grown {row : Option Nat} (H : EnvIn E w g e lv A c sv) (hg : w.grownBy w1 row) (hne : row ≠ some g) : EnvCells w1 g e lv A c sv :=
  cells_of (((Mod.refl (fun k => row = some k) w).grown hg (fun _ hk _ => hk)).obj H.hb hne)
theorem seen_ne (H : EnvIn E w g e lv A c sv) : sv.ownBlock ≠ some g := fun e => (own_ty H.vS e).ne (blk_ty H.hb) (by decide) rfl
theorem vars_ne (H : EnvIn E w g e lv A c sv) : lv.ownBlock ≠ some g := fun e => (H.rL.ty e).ne (blk_ty H.hb) (by decide) rfl
/-- A cell of none of the environment's blocks. -/
theorem seen_cell {p : Addr} {u : Value} {w0 : World} (H : EnvIn E w g e lv A c sv) (hb : Below w0.heap.size w0 w) (hg : w.grownBy w1 sv.ownBlock) (hc : w0.cell? p = some u) (hp : ¬ E p.block) : w1.cell? p = some u :=
  (((Mod.below hb).mono (fun _ _ h => h)).trans (S := E) ((Mod.refl E w).grown hg (fun k hk _ => H.sE k hk)) (fun _ _ h => h)).cell hc hp
def seenE (E : Nat → Prop) (g : Nat) (lv v1 : Value) (k : Nat) : Prop := k = g ∨ (lv.ownBlock = some k ∧ E k) ∨ v1.ownBlock = some k
theorem seen_mod (H : EnvIn E w g e lv A c sv) (hg : w.grownBy w1 sv.ownBlock) : Mod (fun k => sv.ownBlock = some k ∨ k = g) w (w1.setCell ⟨g, 3, none⟩ v1) ∧ ∀ k, Ty w k 44 → ¬ (sv.ownBlock = some k ∨ k = g) := by
  have hm1 : Mod (fun k => sv.ownBlock = some k) w w1 := (Mod.refl _ w).grown hg (fun _ hk _ => hk)
  have hg1 : Mod (fun k => k = g) w1 (w1.setCell ⟨g, 3, none⟩ v1) := (Mod.refl (fun k => k = g) w1).setCell (p := ⟨g, 3, none⟩) (fun _ => rfl) v1
  refine ⟨(hm1.mono (fun _ _ h => .inl h)).trans hg1 (fun _ _ h => .inr h), ?_⟩
  rintro k ht (h | rfl)
  · exact ht.ne (own_ty H.vS h) (by decide) rfl
  · exact ht.ne (blk_ty H.hb) (by decide) rfl
theorem seen_own {L : List (B × B)} (H : EnvIn E w g e lv A c sv) (hg : w.grownBy w1 sv.ownBlock) (h : Own kVar 44 w lv L) : Own kVar 44 (w1.setCell ⟨g, 3, none⟩ v1) lv L :=
  own_keep (fun _ _ _ _ h => h) h (seen_mod H hg).1 (fun k hk => (seen_mod (v1 := v1) H hg).2 k (own_ty h hk))
theorem seen_full {b n : Nat} {L : List (B × B)} (H : EnvIn E w g e lv A c sv) (hg : w.grownBy w1 sv.ownBlock) (h : kVar.C w (some ⟨b, 0, none⟩) n L) (ht : Ty w b 44) : kVar.C (w1.setCell ⟨g, 3, none⟩ v1) (some ⟨b, 0, none⟩) n L :=
  ReadsRow.mod h (seen_mod H hg).1 (fun ad e _ => by cases e; exact (seen_mod (v1 := v1) H hg).2 b ht) (fun _ _ _ hp => hp)
/-- A name has been written into 'seen'. -/
theorem env_seen' {s : B} (H : EnvIn E w g e lv A c sv) (hg : w.grownBy w1 sv.ownBlock) (hv : Own Kd.string 9 w1 v1 (e.seen ++ [s])) (hat : v1.ownBlock = sv.ownBlock ∨ ∃ b, v1.ownBlock = some b ∧ w.heap.size ≤ b) :
    EnvIn (seenE E g lv v1) (w1.setCell ⟨g, 3, none⟩ v1) g { e with seen := e.seen ++ [s] } lv A c v1 ∧ Mod E w (w1.setCell ⟨g, 3, none⟩ v1) ∧ ∀ k, k < w.heap.size → seenE E g lv v1 k → E k := by
  have hm1 : Mod (fun k => sv.ownBlock = some k) w w1 := (Mod.refl _ w).grown hg (fun _ hk _ => hk)
  have hgs : sv.ownBlock ≠ some g := fun e => (own_ty H.vS e).ne (blk_ty H.hb) (by decide) rfl
  have hb1 := hm1.obj H.hb hgs
  have hm : Mod E w (w1.setCell ⟨g, 3, none⟩ v1) := (hm1.mono (fun k _ hk => H.sE k hk)).setCell (fun _ => H.own) v1
  have hg1 : Mod (fun k => k = g) w1 (w1.setCell ⟨g, 3, none⟩ v1) := (Mod.refl (fun k => k = g) w1).setCell (p := ⟨g, 3, none⟩) (fun _ => rfl) v1
  have hm2 : Mod (fun k => sv.ownBlock = some k ∨ k = g) w (w1.setCell ⟨g, 3, none⟩ v1) := (hm1.mono (fun _ _ h => .inl h)).trans hg1 (fun _ _ h => .inr h)
  have hlS : ∀ k, lv.ownBlock = some k → ¬ (sv.ownBlock = some k ∨ k = g) := by
    rintro k hk (h | rfl)
    · exact (H.rL.ty hk).ne (own_ty H.vS h) (by decide) rfl
    · exact (H.rL.ty hk).ne (blk_ty H.hb) (by decide) rfl
  have hlt : ∀ k, v1.ownBlock = some k → k < w.heap.size → E k := by
    intro k hk hl
    rcases hat with h | ⟨b, h, hb⟩
    · exact H.sE k (h ▸ hk)
    · rw [h] at hk; cases hk; omega
  have hlE : ∀ k, lv.ownBlock = some k → (E k ↔ seenE E g lv v1 k) := by
    intro k hk
    refine ⟨fun h => .inr (.inl ⟨hk, h⟩), ?_⟩
    rintro (rfl | h | h)
    · exact H.own
    · exact h.2
    · exact hlt k h (H.rL.ty hk).lt
  have hAS : ∀ ad, A = some ad → 0 < e.args.length → ¬ (sv.ownBlock = some ad.block ∨ ad.block = g) := by
    rintro ad h1 h2 (h | h)
    · exact (H.hE ad h1 h2).1 (H.sE _ h)
    · exact (H.hE ad h1 h2).1 (h ▸ H.own)
  have hv1g : ∀ k, v1.ownBlock = some k → ¬ k = g := by
    rintro k hk rfl
    rcases hat with h | ⟨b, h, hb⟩
    · exact hgs (h ▸ hk)
    · rw [h] at hk; cases hk; have := obj_lt H.hb; omega
  refine ⟨{ hb := ?_, rL := H.rL.mod hm2 hlS hlE, vS := own_keep (fun _ _ _ _ h => h) hv hg1 hv1g, hA := str_C H.hA hm2 hAS, hc := H.hc, hE := ?_, sE := fun _ h => .inr (.inr h), own := .inl rfl, ty := ?_, tab := tab_mod H.tab hm H.tabE, tabE := ?_, stat := H.stat, len := H.len }, hm, ?_⟩
  · exact (blk_set hb1 3 v1).trans rfl
  · intro ad h1 h2
    refine ⟨?_, (H.hE ad h1 h2).2.mod hm2 (hAS ad h1 h2)⟩
    rintro (h | h | h)
    · exact (H.hE ad h1 h2).1 (h ▸ H.own)
    · exact (H.hE ad h1 h2).1 h.2
    · exact (H.hE ad h1 h2).1 (hlt _ h (H.hE ad h1 h2).2.lt)
  · rintro k (rfl | h | h)
    · exact .inl (blk_ty ((blk_set hb1 3 v1).trans rfl))
    · exact .inr (.inl ((H.rL.ty h.1).mod hm2 (hlS _ h.1)))
    · exact .inr (.inr (own_ty (own_keep (fun _ _ _ _ h => h) hv hg1 hv1g) h))
  · rintro (h | h | h)
    · exact H.tabE (h ▸ H.own)
    · exact H.tabE h.2
    · refine H.tabE (hlt _ h ?_)
      have ht := H.tab
      unfold TabOk Lib.TabIs World.var? at ht
      rw [show Tryd.prog.globalNamed tabName = some 0 from by kernel_rfl] at ht
      simp only [Option.bind_some] at ht
      cases hh : w.heap[0]? with
      | none => rw [hh] at ht; cases ht
      | some o => exact obj_lt hh
  · rintro k hk (rfl | h | h)
    · exact H.own
    · exact h.2
    · exact hlt _ h hk
theorem env_seen {s : B} (H : EnvIn E w g e lv A c sv) (hg : w.grownBy w1 sv.ownBlock) (hv : Own Kd.string 9 w1 v1 (e.seen ++ [s])) (hat : v1.ownBlock = sv.ownBlock ∨ ∃ b, v1.ownBlock = some b ∧ w.heap.size ≤ b) :
    ∃ E', EnvIn E' (w1.setCell ⟨g, 3, none⟩ v1) g { e with seen := e.seen ++ [s] } lv A c v1 ∧ Mod E w (w1.setCell ⟨g, 3, none⟩ v1) ∧ ∀ k, k < w.heap.size → E' k → E k := ⟨_, env_seen' H hg hv hat⟩
/-- A variable has been written. -/
theorem env_var {s : B × B} (H : EnvIn E w g e lv A c sv) {row : Option Nat} (hrow : ∀ k, row = some k → lv.ownBlock = some k ∧ E k) (hg : w.grownBy w1 row) (hv : Own kVar 44 w1 v1 (e.L ++ [s])) (hat : (v1.ownBlock = row) ∨ ∃ b, v1.ownBlock = some b ∧ w.heap.size ≤ b) :
    ∃ E', EnvIn E' (w1.setCell ⟨g, 0, none⟩ v1) g { e with L := e.L ++ [s] } v1 A c sv ∧ Mod E w (w1.setCell ⟨g, 0, none⟩ v1) ∧ ∀ k, k < w.heap.size → E' k → E k := by
  have hm1 : Mod (fun k => row = some k) w w1 := (Mod.refl _ w).grown hg (fun _ hk _ => hk)
  have hgs : row ≠ some g := fun e => (H.rL.ty (hrow _ e).1).ne (blk_ty H.hb) (by decide) rfl
  have hb1 := hm1.obj H.hb hgs
  have hm : Mod E w (w1.setCell ⟨g, 0, none⟩ v1) := (hm1.mono (fun k _ hk => (hrow k hk).2)).setCell (fun _ => H.own) v1
  have hg1 : Mod (fun k => k = g) w1 (w1.setCell ⟨g, 0, none⟩ v1) := (Mod.refl (fun k => k = g) w1).setCell (p := ⟨g, 0, none⟩) (fun _ => rfl) v1
  have hm2 : Mod (fun k => row = some k ∨ k = g) w (w1.setCell ⟨g, 0, none⟩ v1) := (hm1.mono (fun _ _ h => .inl h)).trans hg1 (fun _ _ h => .inr h)
  have hlS : ∀ k, sv.ownBlock = some k → ¬ (row = some k ∨ k = g) := by
    rintro k hk (h | rfl)
    · exact (own_ty H.vS hk).ne (H.rL.ty (hrow _ h).1) (by decide) rfl
    · exact (own_ty H.vS hk).ne (blk_ty H.hb) (by decide) rfl
  have hAS : ∀ ad, A = some ad → 0 < e.args.length → ¬ (row = some ad.block ∨ ad.block = g) := by
    rintro ad h1 h2 (h | h)
    · exact (H.hE ad h1 h2).1 (hrow _ h).2
    · exact (H.hE ad h1 h2).1 (h ▸ H.own)
  have hlt : ∀ k, v1.ownBlock = some k → k < w.heap.size → E k := by
    intro k hk hl
    rcases hat with h | ⟨b, h, hb⟩
    · exact (hrow k (h ▸ hk)).2
    · rw [h] at hk; cases hk; omega
  have hv1g : ∀ k, v1.ownBlock = some k → ¬ k = g := by
    rintro k hk rfl
    rcases hat with h | ⟨b, h, hb⟩
    · exact hgs (h ▸ hk)
    · rw [h] at hk; cases hk; have := obj_lt H.hb; omega
  refine ⟨fun k => k = g ∨ v1.ownBlock = some k ∨ sv.ownBlock = some k, { hb := ?_, vS := own_keep (fun _ _ _ _ h => h) H.vS hm2 hlS, rL := .inl ⟨own_keep (fun _ _ _ _ h => h) hv hg1 hv1g, fun _ h => .inr (.inl h)⟩, hA := str_C H.hA hm2 hAS, hc := H.hc, hE := ?_, sE := fun _ h => .inr (.inr h), own := .inl rfl, ty := ?_, tab := tab_mod H.tab hm H.tabE, tabE := ?_, stat := H.stat, len := H.len }, hm, ?_⟩
  · exact (blk_set hb1 0 v1).trans rfl
  · intro ad h1 h2
    refine ⟨?_, (H.hE ad h1 h2).2.mod hm2 (hAS ad h1 h2)⟩
    rintro (h | h | h)
    · exact (H.hE ad h1 h2).1 (h ▸ H.own)
    · exact (H.hE ad h1 h2).1 (hlt _ h (H.hE ad h1 h2).2.lt)
    · exact (H.hE ad h1 h2).1 (H.sE _ h)
  · rintro k (rfl | h | h)
    · exact .inl (blk_ty ((blk_set hb1 0 v1).trans rfl))
    · exact .inr (.inl (own_ty (own_keep (fun _ _ _ _ h => h) hv hg1 hv1g) h))
    · exact .inr (.inr (own_ty (own_keep (fun _ _ _ _ h => h) H.vS hm2 hlS) h))
  · rintro (h | h | h)
    · exact H.tabE (h ▸ H.own)
    rotate_left
    · exact H.tabE (H.sE _ h)
    · refine H.tabE (hlt _ h ?_)
      have ht := H.tab
      unfold TabOk Lib.TabIs World.var? at ht
      rw [show Tryd.prog.globalNamed tabName = some 0 from by kernel_rfl] at ht
      simp only [Option.bind_some] at ht
      cases hh : w.heap[0]? with
      | none => rw [hh] at ht; cases ht
      | some o => exact obj_lt hh
  · rintro k hk (rfl | h | h)
    · exact H.own
    · exact hlt _ h hk
    · exact H.sE _ h
end

section
variable {ops : Array Oper} {o : Oper} {a : Act} {Q : Exit → Act → World → Prop} {Kc : Act → World → Prop} {W : World} {X : Prop}
theorem ap_str_step (hgd : o.guard = none) (s x : Operand) (ho : o.op = .call { callee := .builtin .append, args := #[s, x], argTypes := #[24, 24] }) (v : Value) (xs : List B) (p : B) (N : Nat) (hs : a.eval s = v) (hx : a.eval x = .slice (some ⟨N, 0, none⟩) 1 1)
    (HO : Own Kd.string 9 W v xs) (hcell : W.cell? ⟨N, 0, none⟩ = some (.string p)) (hl : xs.length < big)
    (h : ∀ A1 n1 c1 w1, Own Kd.string 9 w1 (.slice A1 n1 c1) (xs ++ [p]) → W.grownBy w1 v.ownBlock → ((Value.slice A1 n1 c1).ownBlock = v.ownBlock ∨ ∃ b, (Value.slice A1 n1 c1).ownBlock = some b ∧ W.heap.size ≤ b) → Kc (a.put o.dst (.slice A1 n1 c1)) w1) :
    if Region.wanted o (yielded ops a.tmps) = true then Oper.wp Tryd.prog o a W Kc Q else X := by
  have hw : Region.wanted o (yielded ops a.tmps) = true := by simp [Region.wanted, hgd]
  have key := Kd.R_append_rows_step (P := Tryd.prog) (ops := ops) (Q := Q) (Kc := Kc) Kd.string (Rr := Kd.string.K W) (w0 := W) 0 hw s x 24 9 (.string ⟨#[]⟩) 16 ho Tryd.underlying24 inStr rfl (by decide) (by decide) v xs [p] (some ⟨N, 0, none⟩) 1 1 yes (fun _ => False) hs hx HO
    ⟨rfl, by decide, fun _ => ⟨_, rfl, fun j q hj => by
      obtain rfl : j = 0 := by have := (List.getElem?_eq_some_iff.1 hj).1; simp at this; exact this
      obtain rfl : p = q := by simpa using hj
      refine ⟨[.string p], rfl, rfl, fun i u hu => ?_⟩
      obtain rfl : i = 0 := by have := (List.getElem?_eq_some_iff.1 hu).1; simp at this; exact this
      obtain rfl : Value.string p = u := by simpa using hu
      exact hcell⟩⟩ (fun _ _ h => h) (fun _ h => h.elim) (fun _ _ => trivial) (Below.refl _ _) (Nat.zero_le _)
    (by unfold big at hl; omega) (fun v1 w1 hr _ hg hat => by obtain ⟨A1, c1, rfl⟩ := Kd.R_slice hr; exact h A1 _ c1 w1 hr hg hat)
  rw [if_pos hw] at key
  rw [if_pos hw]
  exact key
theorem ap_rn_step (hgd : o.guard = none) (s x : Operand) (ho : o.op = .call { callee := .builtin .append, args := #[s, x], argTypes := #[38, 38] }) (v : Value) (xs : List Rn) (p : Rn) (N : Nat) (hs : a.eval s = v) (hx : a.eval x = .slice (some ⟨N, 0, none⟩) 1 1)
    (HO : Own kRn 40 W v xs) (h0 : W.cell? ⟨N, 0, none⟩ = some (.string p.t)) (h1 : W.cell? ⟨N, 1, none⟩ = some (.bool p.q)) (h2 : W.cell? ⟨N, 2, none⟩ = some (.bool p.s)) (hl : xs.length < big)
    (h : ∀ A1 n1 c1 w1, Own kRn 40 w1 (.slice A1 n1 c1) (xs ++ [p]) → W.grownBy w1 v.ownBlock → ((Value.slice A1 n1 c1).ownBlock = v.ownBlock ∨ ∃ b, (Value.slice A1 n1 c1).ownBlock = some b ∧ W.heap.size ≤ b) → Kc (a.put o.dst (.slice A1 n1 c1)) w1) :
    if Region.wanted o (yielded ops a.tmps) = true then Oper.wp Tryd.prog o a W Kc Q else X := by
  have hw : Region.wanted o (yielded ops a.tmps) = true := by simp [Region.wanted, hgd]
  have key := Kd.R_append_rows_step (P := Tryd.prog) (ops := ops) (Q := Q) (Kc := Kc) kRn (Rr := kRn.K W) (w0 := W) 0 hw s x 38 40 (.agg #[.string ⟨#[]⟩, .bool false, .bool false]) 24 ho Tryd.underlying38 inRn rfl (by decide) (by decide) v xs [p] (some ⟨N, 0, none⟩) 1 1 yes (fun _ => False) hs hx HO
    ⟨rfl, by decide, fun _ => ⟨_, rfl, fun j q hj => by
      obtain rfl : j = 0 := by have := (List.getElem?_eq_some_iff.1 hj).1; simp at this; exact this
      obtain rfl : p = q := by simpa using hj
      refine ⟨[.string p.t, .bool p.q, .bool p.s], rfl, kRn_mk _ _, fun i u hu => ?_⟩
      match i, hu with
      | 0, hu => cases hu; exact h0
      | 1, hu => cases hu; exact h1
      | 2, hu => cases hu; exact h2
      | i + 3, hu => simp at hu⟩⟩ (fun _ _ h => h) (fun _ h => h.elim) (fun _ _ => trivial) (Below.refl _ _) (Nat.zero_le _)
    (by unfold big at hl; omega) (fun v1 w1 hr _ hg hat => by obtain ⟨A1, c1, rfl⟩ := Kd.R_slice hr; exact h A1 _ c1 w1 hr hg hat)
  rw [if_pos hw] at key
  rw [if_pos hw]
  exact key
end

/-! ### elements -/
theorem var_at {w : World} {A : Option Addr} {xs : List (B × B)} (hC : kVar.C w A xs.length xs) {i : Nat} {p : B × B} (hi : xs[i]? = some p) :
    ∃ ad, A = some ad ∧ w.cell? (ad.add (i * 2)) = some (.string p.1) ∧ w.cell? ⟨(ad.add (i * 2)).block, (ad.add (i * 2)).off + 1, none⟩ = some (.string p.2) := by
  have hlt := (List.getElem?_eq_some_iff.1 hi).1
  obtain ⟨ad, e, hc⟩ := hC.2.2 (by omega)
  obtain ⟨cs, _, hr, hcell⟩ := hc i p hi
  obtain rfl := kVar_K hr
  exact ⟨ad, e, hcell 0 _ rfl, by rw [← add_field ad (i * 2) 1 (by omega)]; exact hcell 1 _ rfl⟩
theorem own_max {α : Type} {d : Kd α} {t : Nat} {w : World} {v : Value} {xs : List α} (h : Own d t w v xs) : xs.length ≤ 9223372036854775807 := by
  obtain ⟨_, _, _, _, hC⟩ := Kd.R_reads h
  exact hC.2.1
theorem str_ne {a b : B} (h : a ≠ b) : ¬ a.toList = b.toList := fun e => h (ByteArray.ext (by
  have key : ∀ x : B, x.toList = x.data.toList := fun x => Lib.toList_data x
  rw [key, key] at e
  exact Array.toList_inj.1 e))

end Go.Proofs.YthbnnlhkcaomlaaDoor.Ex
