/- The walk of glob.chars and of glob.pieces. -/
import Derived.Test.YthbnnlhkcaomlaaDoorGlobChars
namespace Go.Proofs.YthbnnlhkcaomlaaDoor.Gl
open Go.RowKit Go.Shelf Go.Proofs.YthbnnlhkcaomlaaDoorW.PrintWords
attribute [local go_sem] Oper.semAt_some

set_option maxHeartbeats 1000000 in
set_option maxRecDepth 100000 in
theorem chars_in (F : Fence) (n : Nat) (h : F.fn 59) (hro : F.round = none) (A : Option Addr) (m c : Nat) (w : World) :
    CallsIn F n Tryd.prog 59 #[.slice A m c] w fun e w' => e = .returned (.func (.func 71) #[] #[.pointer (some ⟨w.heap.size, 0, none⟩)]) ∧ w' = w.alloc (.cells #[.slice A m c] 38) := by
  refine callsIn_of_wp Tryd.func59 rfl h ?_ hro
  simp only [Tryd.ntmps59, List.size_toArray, List.length_cons, List.length_nil, Nat.reduceAdd, Nat.reduceSub, Array.replicate_succ, Array.replicate_zero, List.push_toArray, List.append_toArray, List.nil_append, List.cons_append]
  gi_wp2
  go_ret
  exact ⟨rfl, rfl⟩

theorem cells_new (w : World) (cs : List Value) (t : TypeId) : ∀ j u, cs[j]? = some u → (w.alloc (.cells cs.toArray t)).cell? ((⟨w.heap.size, 0, none⟩ : Addr).add j) = some u := by
  intro j u h
  have e : (⟨w.heap.size, 0, none⟩ : Addr).add j = ⟨w.heap.size, j, none⟩ := by
    cases j with
    | zero => rfl
    | succ j => simp [Addr.add]
  rw [e, blk_cell (heap_alloc_new w (.cells cs.toArray t)) j]
  simpa using h

def encC (x : Ch) : Array Value := #[.agg #[.int .u8 (x.1.toNat : Int), .bool x.2]]

theorem ReadsRn.below_ {n₀ : Nat} {w w1 : World} {A : Option Addr} {l : List Rn} (h : ReadsRn w A l) (hA : ∀ ad, A = some ad → 0 < l.length → ad.block < n₀) (hb : Below n₀ w w1) : ReadsRn w1 A l := by
  refine ⟨h.1, h.2.1, fun hp => ?_⟩
  obtain ⟨ad, e, hc⟩ := h.2.2 hp
  refine ⟨ad, e, fun j p hj => ?_⟩
  obtain ⟨c, hs, hr, hcell⟩ := hc j p hj
  refine ⟨c, hs, hr, fun i u hu => ?_⟩
  rw [hb.cell (by rw [add_block]; exact hA ad e hp)]
  exact hcell i u hu

/-- chars hands back what tells every character of the pattern. -/
theorem chars_stops (F : Fence) (n : Nat) (h : F.fn 71) (hro : F.round = none) (hn : 1 ≤ n) (Bp n₀ : Nat) (rs : List Rn) (A : Option Addr) (cap : Nat) (w : World) (hBn : Bp < w.heap.size) (hn₀ : n₀ ≤ w.heap.size)
    (hc : w.cell? ⟨Bp, 0, none⟩ = some (.slice A rs.length cap)) (hA : ∀ ad, A = some ad → 0 < rs.length → ad.block < n₀) (hR : ReadsRn w A rs) (hts : ∀ r ∈ rs, r.t.size ≤ 1099511627776) :
    SeqStopsK F n Tryd.prog 71 #[.pointer (some ⟨Bp, 0, none⟩)] encC (KpC n₀) (fun ys => ys = charsOf rs) (fun pre => pre <+: charsOf rs) (charsOf rs).length w := fun l J Jx W hW hJ _ hY h0 =>
  chars1_in F n h hro hn l Bp n₀ rs A cap J Jx hY W hJ ((hW.cell (p := ⟨Bp, 0, none⟩) hBn).trans hc) hA (Nat.le_trans hn₀ hW.size) (hR.below_ hA (hW.mono hn₀)) hts h0

/-- What a piece is in memory; the boxes that it holds lie from n₀ on. -/
def PieceR (n₀ : Nat) (w : World) (p : Piece) (cs : List Value) : Prop := match p with
  | .star => cs = [.bool true, .nilFunc, .bool true]
  | .any => cs = [.bool false, .func (.func 62) #[] #[], .bool true]
  | .lit b => ∃ B q, cs = [.bool false, .func (.func 63) #[] #[.pointer (some ⟨B, 0, none⟩)], .bool false] ∧ w.heap[B]? = some (.cells #[.int .u8 (b.toNat : Int), .bool q] 121 (0, 0))
  | .set body neg => ∃ v, cs = [.bool false, v, .bool true] ∧ SetAt n₀ w body neg v

/-- What a piece's parts may meet: a call; an append to the pieces; a store into a box ahead of n₀; the turn of a block that is no cells. -/
def Fr (n₀ : Nat) (X Y : World) : Prop := ∀ (k : Nat) (cs : Array Value) (t : TypeId), X.heap[k]? = some (.cells cs t (0, 0)) → t ≠ 112 → (t = 116 → n₀ ≤ k) → Y.heap[k]? = some (.cells cs t (0, 0))

theorem Fr.trans {n₀ : Nat} {X Y Z : World} (h : Fr n₀ X Y) (k : Fr n₀ Y Z) : Fr n₀ X Z := fun i cs t hi ho hb => k i cs t (h i cs t hi ho hb) ho hb
theorem Fr.of_below {n₀ : Nat} {X Y : World} (h : Below X.heap.size X Y) : Fr n₀ X Y := fun i _ _ hi _ _ => (h.block i (lt_of_get hi)).trans hi
theorem Fr.setCell {n₀ bx : Nat} {X : World} {v0 : Array Value} (hx : X.heap[bx]? = some (.cells v0 116 (0, 0))) (hn : bx < n₀) (v : Value) : Fr n₀ X (X.setCell ⟨bx, 0, none⟩ v) := fun i cs t hi _ hb =>
  (Below.heap_setCell X ⟨bx, 0, none⟩ v i (fun e => by
    obtain rfl : i = bx := e
    rw [hx] at hi; cases hi
    have := hb rfl; omega)).trans hi
theorem Fr.putObj {n₀ D : Nat} {X : World} {o o' : Obj} (h : X.heap[D]? = some o) (ho : o.isCells = false) : Fr n₀ X (X.putObj D o') := fun i cs t hi _ _ =>
  (World.putObj_heap_other (fun e => by subst e; rw [h] at hi; cases hi; cases ho)).trans hi
theorem keep_append {base k : Nat} {W w1 : World} {tmp : Obj} {v : Value} {xs : List Value} (hrow : W.ownsRow base 112 3 v k xs) (hg : (W.alloc tmp).grownBy w1 v.ownBlock) {i : Nat} {o : Obj} (hi : W.heap[i]? = some o)
    (ho : ∀ cs, o ≠ .cells cs 112 (0, 0)) : w1.heap[i]? = some o := by
  have h1 := (Below.heap_alloc W tmp i (lt_of_get hi)).trans hi
  refine (hg.block i (lt_of_get h1) (fun e => ?_)).trans h1
  obtain ⟨cells, hc⟩ := own_typed hrow i e.symm
  rw [hi] at hc; cases hc
  exact ho cells rfl
theorem Fr.append {n₀ base k : Nat} {W w1 : World} {tmp : Obj} {v : Value} {xs : List Value} (hrow : W.ownsRow base 112 3 v k xs) (hg : (W.alloc tmp).grownBy w1 v.ownBlock) : Fr n₀ W w1 := fun i cs t hi ho _ =>
  keep_append hrow hg hi (fun cs' e => by cases e; exact ho rfl)

theorem ReadsCh.fr {n₀ : Nat} {X Y : World} {A : Option Addr} {l : List Ch} (h : ReadsCh X A l) (hblk : ChBlk X A) (hf : Fr n₀ X Y) : ReadsCh Y A l ∧ ChBlk Y A := by
  have hb : ∀ ad, A = some ad → Y.heap[ad.block]? = X.heap[ad.block]? := by
    intro ad e
    obtain ⟨cs, hc⟩ := hblk ad e
    rw [hc]
    exact hf _ _ _ hc (by decide) (fun e => by cases e)
  refine ⟨⟨h.1, h.2.1, fun hp => ?_⟩, fun ad e => by obtain ⟨cs, hc⟩ := hblk ad e; exact ⟨cs, (hb ad e).trans hc⟩⟩
  obtain ⟨ad, e, hc⟩ := h.2.2 hp
  refine ⟨ad, e, fun j p hj => ?_⟩
  obtain ⟨c, h1, h2, h3⟩ := hc j p hj
  refine ⟨c, h1, h2, fun i u hu => ?_⟩
  rw [← h3 i u hu]
  unfold World.cell?
  rw [add_block, hb ad e]

theorem PieceR.below {n₀ : Nat} {w w1 : World} {p : Piece} {cs : List Value} (h : PieceR n₀ w p cs) (hb : Below w.heap.size w w1) : PieceR n₀ w1 p cs := by
  cases p with
  | star => exact h
  | any => exact h
  | lit b => obtain ⟨B, q, e, hB⟩ := h; exact ⟨B, q, e, (hb.block B (lt_of_block hB)).trans hB⟩
  | set body neg => obtain ⟨v, e, hv⟩ := h; exact ⟨v, e, hv.below hb⟩

theorem PieceR.fr {n₀ : Nat} {w w1 : World} {p : Piece} {cs : List Value} (h : PieceR n₀ w p cs) (hf : Fr n₀ w w1) : PieceR n₀ w1 p cs := by
  cases p with
  | star => exact h
  | any => exact h
  | lit b =>
    obtain ⟨B, q, e, hB⟩ := h
    exact ⟨B, q, e, hf B _ _ hB (by decide) (fun e => by cases e)⟩
  | set body neg =>
    obtain ⟨v, e, A, cap, B1, B2, e2, hr, h1, h2, h3, h4, h5⟩ := h
    obtain ⟨hr', h5'⟩ := hr.fr h5 hf
    exact ⟨v, e, A, cap, B1, B2, e2, hr', hf B1 _ _ h1 (by decide) (fun _ => h3), hf B2 _ _ h2 (by decide) (fun e => by cases e), h3, h4, h5'⟩

theorem PieceR.low {n₀ n₁ : Nat} {w : World} {p : Piece} {cs : List Value} (h : PieceR n₁ w p cs) (hn : n₀ ≤ n₁) : PieceR n₀ w p cs := by
  cases p with
  | star => exact h
  | any => exact h
  | lit b => exact h
  | set body neg =>
    obtain ⟨v, e, A, cap, B1, B2, e2, hr, h1, h2, h3, h4, h5⟩ := h
    exact ⟨v, e, A, cap, B1, B2, e2, hr, h1, h2, by omega, by omega, h5⟩

theorem setOf_le {l : List Ch} {s : SetP} (h : setOf l = some s) : s.len ≤ l.length := by
  match l, h with
  | [], h => simp [setOf] at h
  | [c], h => simp [setOf] at h
  | c :: d :: r', h =>
    unfold setOf at h
    simp only at h
    split at h
    · cases h
    · generalize (isC d 33 || isC d 94) = nb at h
      cases nb with
      | true =>
        cases r' with
        | nil => simp at h
        | cons x y =>
          simp only [if_true, Option.map_eq_some_iff] at h
          obtain ⟨k, hk, rfl⟩ := h
          have := findEnd_lt hk
          simp; omega
      | false =>
        simp only [Bool.false_eq_true, if_false, Option.map_eq_some_iff] at h
        obtain ⟨k, hk, rfl⟩ := h
        have := findEnd_lt hk
        simp; omega

/-- The loop over the characters: what lies at its round's start. -/
def PI (n₁ D : Nat) (w : World) (L : List Ch) (v : Value) (wr : World) : Prop := ∃ (S : List Ch) (ps : List Piece) (A : Option Addr) (c : Nat), pieces L = ps ++ pieces S ∧ ps.length + S.length ≤ L.length ∧ S.length ≤ c ∧
  wr.heap[w.heap.size]? = some (.cells #[.slice A S.length c] 116 (0, 0)) ∧ ReadsCh wr A S ∧ ChBlk wr A ∧ OwnRow (PieceR n₁ wr) 112 3 wr n₁ v ps ∧ Below w.heap.size w wr ∧ n₁ ≤ wr.heap.size ∧ wr.heap[D]? = some (.deferred (some []))

/-- One piece more: the append; the store of the rest. -/
theorem PI.step {n₁ D : Nat} {w : World} {L S' : List Ch} {ps : List Piece} {p : Piece} {cs inner : List Value} {W w3 : World} {tmp : Obj} {v v' v0 : Value} {A2 : Option Addr} {c2 : Nat}
    (hpc : pieces L = ps ++ p :: pieces S') (hpl : ps.length + 1 + S'.length ≤ L.length) (hc2 : S'.length ≤ c2)
    (hbx : W.heap[w.heap.size]? = some (.cells #[v0] 116 (0, 0))) (hrd : ReadsCh W A2 S') (hbk : ChBlk W A2)
    (hrow : W.ownsRow n₁ 112 3 v ps.length inner) (hreps : Reps (PieceR n₁ W) 3 ps inner) (hp : PieceR n₁ W p cs) (hcs : cs.length = 3)
    (hbw : Below w.heap.size w W) (hn : w.heap.size < n₁) (hnw : n₁ ≤ W.heap.size) (hD : W.heap[D]? = some (.deferred (some [])))
    (hown' : w3.ownsRow n₁ 112 3 v' (ps.length + 1) (inner ++ cs)) (hg : (W.alloc tmp).grownBy w3 v.ownBlock) :
    PI n₁ D w L v' (w3.setCell ⟨w.heap.size, 0, none⟩ (.slice A2 S'.length c2)) := by
  have hbx3 := keep_append hrow hg hbx (fun cs e => by cases e)
  have hD3 := keep_append hrow hg hD (fun cs e => by cases e)
  have hf : Fr n₁ W (w3.setCell ⟨w.heap.size, 0, none⟩ (.slice A2 S'.length c2)) := (Fr.append hrow hg).trans (Fr.setCell hbx3 hn _)
  obtain ⟨hr4, hb4⟩ := hrd.fr hbk hf
  have hB3 : Below w.heap.size w w3 := (hbw.alloc hbw.size tmp).grown hg (by have := hbw.size; simp; omega) (fun k e => by have := own_base hrow k e; omega)
  have hbox : Boxed w3 w.heap.size 116 v0 := hbx3
  refine ⟨S', ps ++ [p], A2, c2, by simpa using hpc, by simp; omega, hc2, hbox.set _, hr4, hb4, ⟨inner ++ cs, ?_, ?_⟩, hB3.setCell (p := ⟨w.heap.size, 0, none⟩) (by simp) _, ?_, ?_⟩
  · rw [List.length_append]
    exact hown'.kept (grownBy_setCell' w3 w.heap.size _) (.inr (hbox.not_row (by decide) hown').symm)
  · exact (hreps.imp_ (fun _ _ h => h.fr hf)).snoc (hp.fr hf) hcs
  · have h1 := hg.size; simp [World.setCell] at h1 ⊢; omega
  · exact (Below.heap_setCell w3 ⟨w.heap.size, 0, none⟩ _ D (fun e => by rw [show D = w.heap.size from e] at hD3; rw [hbx3] at hD3; cases hD3)).trans hD3

def boxLen (b : Nat) (wr : World) : Nat := match wr.cell? ⟨b, 0, none⟩ with
  | some (.slice _ m _) => m
  | _ => 0

theorem boxLen_eq {b : Nat} {wr : World} {A : Option Addr} {m c : Nat} (h : wr.cell? ⟨b, 0, none⟩ = some (.slice A m c)) : boxLen b wr = m := by
  unfold boxLen; rw [h]
theorem boxLen_set {b : Nat} {wr : World} {v : Value} {t : TypeId} {A : Option Addr} {m c : Nat} (h : wr.heap[b]? = some (.cells #[v] t (0, 0))) : boxLen b (wr.setCell ⟨b, 0, none⟩ (.slice A m c)) = m :=
  boxLen_eq (Boxed.set _ (show Boxed wr b t v from h)).cell

theorem pieceInfo : (Tryd.prog.info? 112).map (fun i => (i.zero, i.size, i.bytes)) = some (some (.agg #[.bool false, .nilFunc, .bool false]), 3, 24) := by kernel_rfl

def chv (l : List Ch) : List Value := l.flatMap fun x => [.int .u8 (x.1.toNat : Int), .bool x.2]
theorem chv_snoc (l : List Ch) (x : Ch) : chv (l ++ [x]) = chv l ++ [.int .u8 (x.1.toNat : Int), .bool x.2] := by simp [chv]
theorem chv_reps : ∀ (l : List Ch), Reps ChR 2 l (chv l) := by
  have key : ∀ (n : Nat) (l : List Ch), l.length = n → Reps ChR 2 l (chv l) := by
    intro n
    induction n with
    | zero => intro l h; rw [List.length_eq_zero_iff.1 h]; exact Reps.none _ _
    | succ n ih =>
      intro l h
      rcases List.eq_nil_or_concat l with rfl | ⟨l', x, rfl⟩
      · simp at h
      · rw [List.concat_eq_append] at h ⊢
        rw [chv_snoc]
        exact (ih _ (by simpa using h)).snoc rfl rfl
  exact fun l => key _ l rfl

theorem blk_kept {X Y : World} {row : Option Nat} {B t : Nat} {cs : Array Value} (h : X.heap[B]? = some (.cells cs t (0, 0))) (hg : X.grownBy Y row) (hr : ∀ r, row = some r → ∃ o : Obj, X.heap[r]? = some o ∧ o.isCells = false) : Y.heap[B]? = some (.cells cs t (0, 0)) :=
  (hg.block B (lt_of_get h) (fun e => by obtain ⟨o, ho, hc⟩ := hr B e.symm; rw [h] at ho; cases ho; cases hc)).trans h

theorem KpC.alloc {n₀ : Nat} {A : World} (h : n₀ ≤ A.heap.size) (o : Obj) : KpC n₀ A (A.alloc o) :=
  ⟨(Below.refl _ A).alloc h o, fun k _ hk => (Below.heap_alloc A o k (lt_of_get hk)).trans hk⟩
theorem KpC.putObj {n₀ l : Nat} {w W : World} {o o' : Obj} (hn : n₀ ≤ w.heap.size) (hl : w.heap.size ≤ l) (h : W.heap[l]? = some o) (hc : o.isCells = false) (hw : o.isWalk = false) : KpC n₀ W (W.putObj l o') :=
  ⟨belowK_b hn W l o o' hl h hc hw, fun k cs hk => (World.putObj_heap_other (fun e => by subst e; rw [h] at hk; cases hk; cases hc)).trans hk⟩
theorem KpC.appended {W w1 : World} {n₀ B : Nat} {k : Nat} {v : Value} {xs : List Value} {tmp : Obj} {t e : Nat} {u v' : Value} (hrow : W.ownsRow n₀ e 2 v k xs) (he : e ≠ 40) (hgrow : (W.alloc tmp).grownBy w1 v.ownBlock)
    (hbx : Boxed W B t u) (ht : t ≠ 40) (hb : Below n₀ W (w1.setCell ⟨B, 0, none⟩ v')) : KpC n₀ W (w1.setCell ⟨B, 0, none⟩ v') := by
  refine ⟨hb, fun j cs hj => ?_⟩
  have h1 := (Below.heap_alloc W tmp j (lt_of_get hj)).trans hj
  have h2 := (hgrow.block j (lt_of_get h1) (own_ne hrow hj he)).trans h1
  refine (Below.heap_setCell w1 ⟨B, 0, none⟩ v' j ?_).trans h2
  intro e
  rw [show W.heap[j]? = _ from (show j = B from e) ▸ hbx] at hj
  cases hj
  exact ht rfl

set_option maxRecDepth 100000 in
set_option maxHeartbeats 4000000 in
set_option maxRecDepth 100000 in
theorem pieces_in (n : Nat) (hn : 6 ≤ n) (rs : List Rn) (A : Option Addr) (cap : Nat) (w : World)
    (hA : ∀ ad, A = some ad → 0 < rs.length → ad.block < w.heap.size) (hR : ReadsRn w A rs) (hts : (charsOf rs).length ≤ 1099511627776) :
    CallsIn Fence.wide n Tryd.prog 54 #[.slice A rs.length cap] w fun e w' => (∃ v n₁, e = .returned v ∧ w.heap.size ≤ n₁ ∧ OwnRow (PieceR n₁ w') 112 3 w' n₁ v (pieces (charsOf rs))) ∧ Below w.heap.size w w' := by
  obtain ⟨F, hFF⟩ : ∃ F : Fence, F = Fence.wide := ⟨_, rfl⟩
  have hFw : ∀ f, F.fn f := fun f => by rw [hFF]; trivial
  have h1 := hFw 54
  have h2 := hFw 59
  have h3 := hFw 71
  have h4 := hFw 60
  have h5 := hFw 61
  have hro : F.round = none := by rw [hFF]; rfl
  rw [← hFF]
  have HW : Hid (∀ {f : FuncId} {args : Array Value} {w : World} {R : Ending → World → Prop} (n : Nat), Calls Tryd.prog f args w R → CallsIn F n Tryd.prog f args w R) := fun n h => by rw [hFF]; exact callsIn_wide.2 h
  clear hFF hFw
  have hn1 : 1 ≤ n := by omega
  refine callsIn_of_wp_marks Tryd.func54 rfl h1 ?_ hro
  simp only [Tryd.ntmps54, List.size_toArray, List.length_cons, List.length_nil, Nat.reduceAdd, Nat.reduceSub, Array.replicate_succ, Array.replicate_zero, List.push_toArray, List.append_toArray, List.nil_append, List.cons_append]
  gi_wp2_with (gi_at_call 59; refine (chars_in F (n - 1) h2 hro _ _ _ _).mono ?_; rintro e w' ⟨rfl, rfl⟩)
  obtain ⟨i0, hi, hz0, hz1, hz2⟩ := info_parts charInfo
  have bO := Boxed.new w 116 (.slice none 0 0)
  have bN := Boxed.new (w.alloc (.cells #[.slice none 0 0] 116)) 38 (.slice A rs.length cap)
  rw [World.size_alloc] at bN
  have hB0 : Below w.heap.size w ((w.alloc (.cells #[.slice none 0 0] 116)).alloc (.cells #[.slice A rs.length cap] 38)) := ((Below.refl _ w).alloc (Nat.le_refl _) _).alloc (by simp) _
  refine wpIn_rangeFunc_ownH hro hn1 (gf := 71) (lb := #[.pointer (some ⟨w.heap.size + 1, 0, none⟩)]) rfl h3 (enters_of Tryd.func71 (by kernel_rfl) rfl)
    (chars_stops F (n - 1) h3 hro (by omega) (w.heap.size + 1) w.heap.size rs A cap _ (by simp) (by simp; omega) bN.cell hA (hR.below_ hA hB0) (fun r hr => Nat.le_trans (size_le_chars hr) hts)) KpC.trans (fun W l o o' hl h hc hw => KpC.putObj (by simp; omega) hl h hc hw) (Below.refl _ _) (fun _ => rfl)
    (fun pre W => (∃ v, Boxed W w.heap.size 116 v ∧ W.ownsRow w.heap.size 121 2 v pre.length (chv pre) ∧ True) ∧ Below w.heap.size w W)
    (fun _ _ _ => False)
    (OwnFrom.and (Own.from (holdsRow_own w.heap.size w.heap.size 116 121 2 (fun pre : List Ch => pre.length) (fun pre => chv pre) (fun pre v => True)) _) (ownFrom_below (Nat.le_refl _) (by simp; omega)))
    (fun _ _ _ _ _ hs _ _ => hs)
    ⟨⟨_, bO.alloc _, World.ownsRow_nil _ _ _ _, trivial⟩, hB0⟩
    (fun x a' W => ∃ Bx : Nat, W.heap[Bx]? = some (.cells #[.int .u8 (x.1.toNat : Int), .bool x.2] 121 (0, 0)) ∧ a' = { tmps := #[.slice A rs.length cap, undef, .slice none 0 0, .pointer (some ⟨w.heap.size, 0, none⟩), .pointer (some ⟨Bx, 0, none⟩), undef, undef, undef, undef, .slice A rs.length cap, .func (.func 71) #[] #[.pointer (some ⟨w.heap.size + 1, 0, none⟩)], .agg #[.int .u8 (x.1.toNat : Int), .bool x.2], undef, undef, undef, undef, undef, undef, undef, undef, undef, undef, undef, undef, undef, undef, undef, undef, undef, undef, undef, undef, undef, undef, undef, undef, undef, undef, undef, undef, undef, undef, undef, undef, undef, undef, undef, undef, undef, undef, undef, undef, undef, undef, undef, undef, undef, undef, undef, undef], defers := [] })
    (fun x a' _ X Y row hs hg hr => by obtain ⟨Bx, h2, h3⟩ := hs; exact ⟨Bx, blk_kept h2 hg (fun r e => (hr r e).2), h3⟩)
    ?assign ?body ?done ?stop
  case assign =>
    rintro l pre ⟨b, q⟩ W K ⟨⟨v, hv, hrow, -⟩, hB⟩ hK
    have hsz := hB.size
    have hlt := hv.lt
    have hbx : (W.alloc (.cells #[.int .u8 (b.toNat : Int), .bool q] 121)).heap[W.heap.size]? = some (.cells #[.int .u8 (b.toNat : Int), .bool q] 121 (0, 0)) := heap_alloc_new W _
    have HBX := Lib.hid hbx
    clear hbx
    simp only [encC]
    gi_wp2
    exact hK _ _ ((KeepsOthers.alloc _ _).from _) (KpC.alloc hsz _) ⟨⟨v, hv.alloc _, hrow.alloc _, trivial⟩, hB.alloc hsz _⟩ ⟨W.heap.size, HBX.out, rfl⟩
  case body =>
    rintro l pre ⟨b, q⟩ a' W - - ⟨⟨v, hv, hrow, -⟩, hB⟩ ⟨Bx, hbx, rfl⟩ hlt
    obtain ⟨Al, cl, rfl⟩ := own_slice hrow
    have hc := hv.cell
    have b1 : W.cell? ⟨Bx, 0, none⟩ = some (.int .u8 (b.toNat : Int)) := blk_cell hbx 0
    have b2 : W.cell? ⟨Bx, 1, none⟩ = some (.bool q) := blk_cell hbx 1
    gi_wp2_with (gi_at_builtin; refine wpListIn_append_own _ rfl _ _ 116 rfl w.heap.size 121 i0 (.agg #[.int .u8 0, .bool false]) 2 2 Tryd.underlying116 hi hz0 hz1 hz2 rfl (by decide) _ _ _ rfl (hrow.alloc _) ⟨W.heap.size, 0, none⟩ 1 1 [.int .u8 (b.toNat : Int), .bool q] rfl rfl (cells_new _ [_, _] _) (by simp [Value.oneCell']) (by unfold maxLen; omega) (by omega) (by have := hB.size; simp; omega) ?_; intro v' w1 hown' hgrow _; obtain ⟨g', cap', rfl⟩ := ownsRow_succ hown'; obtain ⟨hv1, hv2, hr2, hk2, hb2⟩ := hv.appended (by decide) hrow hB.size (Nat.le_refl _) hown' hgrow; have hc1 := hv1.cell; have hf1 := hv1.frozen)
    have e1 : (pre ++ [(b, q)]).length = pre.length + 1 := by simp
    exact ⟨hk2.from _, KpC.appended hrow (by decide) hgrow hv (by decide) hb2, ⟨_, hv2, by rw [chv_snoc, e1]; exact hr2⟩, hB.trans hb2⟩
  case done =>
    rintro D ys W hD0 rfl ⟨⟨v, hv, hrow, -⟩, hB⟩ hK
    obtain ⟨Al, cl, rfl⟩ := own_slice hrow
    obtain ⟨ip, hip, hp0, hp1, hp2⟩ := info_parts pieceInfo
    obtain ⟨L, hL⟩ : ∃ L, L = charsOf rs := ⟨_, rfl⟩
    rw [← hL] at hrow hv hts
    have hrd : ReadsCh W Al L := by
      obtain ⟨A0, c0, e0, hr0⟩ := own_reads_row hrow (chv_reps L) rfl
      cases e0; exact hr0
    have hblk : ChBlk W Al := fun ad e => by subst e; exact own_typed hrow ad.block rfl
    have hPI : PI W.heap.size D w L (.slice none 0 0) W := ⟨L, [], Al, cl, rfl, by simp, own_le hrow, hv, hrd, hblk, OwnRow.none_ _ _ _ _ _, hB, Nat.le_refl _, hK⟩
    have hlW := hv.lt
    clear hrd hblk hv hrow hB hK
    obtain ⟨n₁, hn₁⟩ : ∃ n₁, n₁ = W.heap.size := ⟨_, rfl⟩
    rw [← hn₁] at hPI hlW
    have HN := Lib.hid hn₁
    clear hn₁
    gi_wp2
    gi_loopw [5] (fun v wr => PI n₁ D w L v wr) (fun _ wr => boxLen w.heap.size wr)
    case atStart => exact hPI
    case round =>
      obtain ⟨S, ps, A', c', hpc, hpl, hSc, hbx, hrd, hbk, how, hbw, hnw, hD⟩ := hrel
      have cb := blk_cell hbx 0
      have fb := blk_frozen hbx 0
      have hlr : w.heap.size < wr.heap.size := lt_of_get hbx
      have HRD := Lib.hid hrd
      have HBK := Lib.hid hbk
      have HBX := Lib.hid hbx
      have HDD := Lib.hid hD
      have HPC := Lib.hid hpc
      obtain ⟨inner, hrow, hreps⟩ := how
      obtain ⟨Ao, co, rfl⟩ := own_slice hrow
      cases S with
      | nil =>
        clear hpc hrd hbk hbx
        gi_wp2
        have hfp : Fr n₁ wr (wr.putObj D (.deferred none)) := Fr.putObj HDD.out rfl
        refine ⟨by simp, .inl ⟨_, _, rfl, run_takeDeferred HDD.out, ?_⟩⟩
        have e : pieces (charsOf rs) = ps := by rw [← hL, HPC.out, pieces_nil, List.append_nil]
        refine ⟨_, results_tmp rfl _ _ _, ⟨_, n₁, rfl, by omega, by rw [e]; exact ⟨inner, ownsRow_putObj hrow _ HDD.out rfl, hreps.imp_ (fun _ _ h => h.fr hfp)⟩⟩, ?_⟩
        exact hbw.trans (belowK_b (w := w) (Nat.le_refl _) wr D _ _ (by simp at hD0; omega) HDD.out rfl rfl)
      | cons ch S' =>
        obtain ⟨b, q⟩ := ch
        simp only [List.length_cons] at hpl hSc
        obtain ⟨ad, rfl, x1, x2⟩ := hrd.at_ (i := 0) rfl
        rw [show ad.add (0 * 2) = ad from rfl] at x1 x2
        dsimp only at x1 x2
        simp at cb
        cases hs : setOf ((b, q) :: S') with
        | some s =>
          have HS := Lib.hid hs
          clear hpc hrd hbk hs hbx
          have hlt : 0 < s.len := setOf_len HS.out
          have hlt' : (0 : Int) < (s.len : Int) := by omega
          obtain ⟨S2, hS2⟩ : ∃ S2, S2 = ((b, q) :: S').drop s.len := ⟨_, rfl⟩
          have hsle := setOf_le HS.out
          simp only [List.length_cons] at hsle
          have hS2l : S2.length = S'.length + 1 - s.len := by rw [hS2, List.length_drop]; rfl
          obtain ⟨A2, hA2⟩ : ∃ A2 : Option Addr, A2 = (if c' = s.len then some ad else (some ad).map (·.add (s.len * 2))) := ⟨_, rfl⟩
          have hcut : ∀ W : World, (Instr.slice 116 (.slice (some ad) (S'.length + 1) c') (some (.int .i64 (s.len : Int))) none none).run Tryd.prog W = .ok (.slice A2 S2.length (c' - s.len)) W := by
            intro W
            have h := cut_from (P := Tryd.prog) 116 121 .i64 Tryd.underlying116 hi 2 hz1 (some ad) (S'.length + 1) c' (s.len : Int) (by omega) (by omega) W
            rw [hA2, hS2l]
            exact h
          have HRD2 : Hid (∀ W, ReadsCh W (some ad) ((b, q) :: S') → ReadsCh W A2 S2) := fun W h => by rw [hA2, hS2]; exact h.drop hsle hSc
          have HBK2 : Hid (∀ W, ChBlk W (some ad) → ChBlk W A2) := fun W h => by rw [hA2]; exact h.cut _ _ _
          have HPC2 := Lib.hid (show pieces L = ps ++ Piece.set s.body s.neg :: pieces S2 from by rw [HPC.out, pieces_set HS.out, hS2])
          clear hA2 hS2
          gi_wp2_with (first | (gi_at_call 60; refine (HW.out _ (setf_walk ((b, q) :: S') (some ad) c' _ (by simp only [List.length_cons]; omega) hSc (HRD.out.below ((Below.refl _ _).alloc (Nat.le_refl _) _)) (HBK.out.below ((Below.refl _ _).alloc (Nat.le_refl _) _)))).mono ?_; rintro e w2 ⟨hres, hb2⟩; rw [SetRes, HS.out] at hres; obtain ⟨v, rfl, A0, cap0, B1, B2, rfl, hset⟩ := hres; have hb2' : Below wr.heap.size wr w2 := ((Below.refl _ wr).alloc (Nat.le_refl _) _).trans (hb2.mono (by simp)); have hrow2 := pw_own_below hrow hb2'; have hbx2 := (hb2'.block _ hlr).trans HBX.out; have c2 := blk_cell hbx2 0; have f2 := blk_frozen hbx2 0; simp at c2; have HBX2 := Lib.hid hbx2; clear hbx2; have HSET := Lib.hid hset; clear hset; have hnw2 : n₁ ≤ w2.heap.size := Nat.le_trans hnw hb2'.size) | (gi_at_builtin; refine wpListIn_append_own _ rfl _ _ 108 rfl n₁ 112 ip (.agg #[.bool false, .nilFunc, .bool false]) 3 24 Tryd.underlying108 hip hp0 hp1 hp2 rfl (by decide) _ _ _ rfl (hrow2.alloc _) ⟨w2.heap.size, 0, none⟩ 1 1 [.bool false, .func (.func 74) #[] #[.pointer (some ⟨B1, 0, none⟩), .pointer (some ⟨B2, 0, none⟩)], .bool true] rfl rfl (cells_new _ [_, _, _] _) (by simp [Value.oneCell']) (by unfold maxLen; omega) (by omega) (by simp; omega) ?_; intro v' w3 hown' hgrow _; obtain ⟨g', cap', rfl⟩ := ownsRow_succ hown'; have hbx3 := keep_append hrow2 hgrow HBX2.out (fun cs e => by cases e); have c3 := blk_cell hbx3 0; have f3 := blk_frozen hbx3 0; simp at c3; clear hbx3))
          refine ⟨?_, ?_⟩
          · rw [← hS2l]
            exact PI.step (p := .set s.body s.neg) HPC2.out (by omega) (by omega) HBX2.out (HRD2.out _ (HRD.out.below hb2')) (HBK2.out _ (HBK.out.below hb2')) hrow2 (hreps.imp_ (fun _ _ h => h.below hb2'))
              ⟨_, rfl, A0, cap0, B1, B2, rfl, HSET.out.1, HSET.out.2.1, HSET.out.2.2.1, by have := HSET.out.2.2.2.1; simp at this; omega, by have := HSET.out.2.2.2.2.1; simp at this; omega, HSET.out.2.2.2.2.2⟩ rfl (hbw.trans (hb2'.mono hbw.size)) hlW hnw2 ((hb2'.block D (lt_of_get HDD.out)).trans HDD.out) hown' hgrow
          · rw [boxLen_set (keep_append hrow2 hgrow HBX2.out (fun cs e => by cases e)), boxLen_eq cb]; omega
        | none =>
          have HS := Lib.hid hs
          clear hpc hrd hbk hs hbx
          obtain ⟨A2, hA2⟩ : ∃ A2 : Option Addr, A2 = (if c' = 1 then some ad else (some ad).map (·.add (1 * 2))) := ⟨_, rfl⟩
          have hcut : ∀ W : World, (Instr.slice 116 (.slice (some ad) (S'.length + 1) c') (some (.int .i64 1)) none none).run Tryd.prog W = .ok (.slice A2 S'.length (c' - 1)) W := by
            intro W
            have h := cut_from (P := Tryd.prog) 116 121 .i64 Tryd.underlying116 hi 2 hz1 (some ad) (S'.length + 1) c' 1 (by omega) (by omega) W
            rw [hA2]
            exact h
          have HRD2 : Hid (∀ W, ReadsCh W (some ad) ((b, q) :: S') → ReadsCh W A2 S') := fun W h => by rw [hA2]; exact h.drop (m := 1) (by simp) hSc
          have HBK2 : Hid (∀ W, ChBlk W (some ad) → ChBlk W A2) := fun W h => by rw [hA2]; exact h.cut _ _ _
          have HPC2 := Lib.hid (show pieces L = ps ++ ofCh (b, q) :: pieces S' from by rw [HPC.out, pieces_none HS.out])
          have IS : Hid (∀ (k : UInt8) (W : World), Calls Tryd.prog 61 #[.agg #[.int .u8 (b.toNat : Int), .bool q], .string ⟨#[k]⟩] W fun e w' => e = .returned (.bool (isC (b, q) k)) ∧ Below W.heap.size W w') := fun k W => by
            have h := is_walk (b, q) ⟨#[k]⟩ W
            rw [show isL (b, q) (ByteArray.mk #[k]).data.toList = isC (b, q) k from isL_one _ _] at h
            exact h
          clear hA2
          gi_wp2_with (gi_at_call 60; refine (HW.out _ (setf_walk ((b, q) :: S') (some ad) c' _ (by simp only [List.length_cons]; omega) hSc (HRD.out.below ((Below.refl _ _).alloc (Nat.le_refl _) _)) (HBK.out.below ((Below.refl _ _).alloc (Nat.le_refl _) _)))).mono ?_; rintro e w2 ⟨hres, hb2⟩; rw [SetRes, HS.out] at hres; obtain rfl := hres; have hb2' : Below wr.heap.size wr w2 := ((Below.refl _ wr).alloc (Nat.le_refl _) _).trans (hb2.mono (by simp)); have hrow2 := pw_own_below hrow hb2'; have hbx2 := (hb2'.block _ hlr).trans HBX.out; have c2 := blk_cell hbx2 0; have f2 := blk_frozen hbx2 0; simp at c2; have hch2 := (hb2.block wr.heap.size (by simp)).trans (heap_alloc_new wr (.cells #[.int .u8 (b.toNat : Int), .bool q] 121)); have HCH2 := Lib.hid hch2; have HBX2 := Lib.hid hbx2; have y2 : w2.cell? ⟨wr.heap.size, 0, none⟩ = some (.int .u8 (b.toNat : Int)) := blk_cell hch2 0; have z2 : w2.cell? ⟨wr.heap.size, 1, none⟩ = some (.bool q) := blk_cell hch2 1; clear hbx2 hch2; have hnw2 : n₁ ≤ w2.heap.size := Nat.le_trans hnw hb2'.size)
          refine (HW.out _ (IS.out 42 w2)).mono ?_
          rintro e w3 ⟨rfl, hb3⟩
          have hb3' : Below wr.heap.size wr w3 := hb2'.trans (hb3.mono hb2'.size)
          have hrow3 := pw_own_below hrow hb3'
          have hbx3 := (hb3'.block _ hlr).trans HBX.out
          have hch3 := (hb3.block wr.heap.size (lt_of_get HCH2.out)).trans HCH2.out
          have c3 := blk_cell hbx3 0
          have f3 := blk_frozen hbx3 0
          simp at c3
          have y3 : w3.cell? ⟨wr.heap.size, 0, none⟩ = some (.int .u8 (b.toNat : Int)) := blk_cell hch3 0
          have z3 : w3.cell? ⟨wr.heap.size, 1, none⟩ = some (.bool q) := blk_cell hch3 1
          have HBX3 := Lib.hid hbx3
          have HCH3 := Lib.hid hch3
          clear hbx3 hch3 y2 z2
          have hnw3 : n₁ ≤ w3.heap.size := Nat.le_trans hnw hb3'.size
          cases h42 : isC (b, q) 42 with
          | true =>
            have H42 := Lib.hid h42
            clear h42
            gi_wp2_with (gi_at_builtin; refine wpListIn_append_own _ rfl _ _ 108 rfl n₁ 112 ip (.agg #[.bool false, .nilFunc, .bool false]) 3 24 Tryd.underlying108 hip hp0 hp1 hp2 rfl (by decide) _ _ _ rfl (hrow3.alloc _) ⟨w3.heap.size, 0, none⟩ 1 1 [.bool true, .nilFunc, .bool true] rfl rfl (cells_new _ [_, _, _] _) (by simp [Value.oneCell']) (by unfold maxLen; omega) (by omega) (by simp; omega) ?_; intro v' w5 hown' hgrow _; obtain ⟨g', cap', rfl⟩ := ownsRow_succ hown'; have hbx3 := keep_append hrow3 hgrow HBX3.out (fun cs e => by cases e); have c9 := blk_cell hbx3 0; have f9 := blk_frozen hbx3 0; simp at c9; clear hbx3)
            have HPC3 := Lib.hid (show pieces L = ps ++ .star :: pieces S' from by rw [HPC2.out]; rw [ofCh, if_pos H42.out])
            refine ⟨PI.step (p := .star) HPC3.out (by omega) (by omega) HBX3.out (HRD2.out _ (HRD.out.below hb3')) (HBK2.out _ (HBK.out.below hb3')) hrow3 (hreps.imp_ (fun _ _ h => h.below hb3'))
              rfl rfl (hbw.trans (hb3'.mono hbw.size)) hlW hnw3 ((hb3'.block D (lt_of_get HDD.out)).trans HDD.out) hown' hgrow, ?_⟩
            rw [boxLen_set (keep_append hrow3 hgrow HBX3.out (fun cs e => by cases e)), boxLen_eq cb]; omega
          | false =>
            have H42 := Lib.hid h42
            clear h42
            gi_wp2
            refine (HW.out _ (IS.out 63 w3)).mono ?_
            rintro e w4 ⟨rfl, hb4⟩
            have hb4' : Below wr.heap.size wr w4 := hb3'.trans (hb4.mono hb3'.size)
            have hrow4 := pw_own_below hrow hb4'
            have hbx4 := (hb4'.block _ hlr).trans HBX.out
            have hch4 := (hb4.block wr.heap.size (lt_of_get HCH3.out)).trans HCH3.out
            have c4 := blk_cell hbx4 0
            have f4 := blk_frozen hbx4 0
            simp at c4
            have y4 : w4.cell? ⟨wr.heap.size, 0, none⟩ = some (.int .u8 (b.toNat : Int)) := blk_cell hch4 0
            have z4 : w4.cell? ⟨wr.heap.size, 1, none⟩ = some (.bool q) := blk_cell hch4 1
            have HBX4 := Lib.hid hbx4
            have HCH4 := Lib.hid hch4
            clear hbx4 hch4 y3 z3
            have hnw4 : n₁ ≤ w4.heap.size := Nat.le_trans hnw hb4'.size
            cases h63 : isC (b, q) 63 with
            | true =>
              have H63 := Lib.hid h63
              clear h63
              gi_wp2_with (gi_at_builtin; refine wpListIn_append_own _ rfl _ _ 108 rfl n₁ 112 ip (.agg #[.bool false, .nilFunc, .bool false]) 3 24 Tryd.underlying108 hip hp0 hp1 hp2 rfl (by decide) _ _ _ rfl (hrow4.alloc _) ⟨w4.heap.size, 0, none⟩ 1 1 [.bool false, .func (.func 62) #[] #[], .bool true] rfl rfl (cells_new _ [_, _, _] _) (by simp [Value.oneCell']) (by unfold maxLen; omega) (by omega) (by simp; omega) ?_; intro v' w5 hown' hgrow _; obtain ⟨g', cap', rfl⟩ := ownsRow_succ hown'; have hbx3 := keep_append hrow4 hgrow HBX4.out (fun cs e => by cases e); have c9 := blk_cell hbx3 0; have f9 := blk_frozen hbx3 0; simp at c9; clear hbx3)
              have HPC3 := Lib.hid (show pieces L = ps ++ .any :: pieces S' from by rw [HPC2.out]; rw [ofCh, if_neg (by rw [H42.out]; decide), if_pos H63.out])
              refine ⟨PI.step (p := .any) HPC3.out (by omega) (by omega) HBX4.out (HRD2.out _ (HRD.out.below hb4')) (HBK2.out _ (HBK.out.below hb4')) hrow4 (hreps.imp_ (fun _ _ h => h.below hb4'))
                rfl rfl (hbw.trans (hb4'.mono hbw.size)) hlW hnw4 ((hb4'.block D (lt_of_get HDD.out)).trans HDD.out) hown' hgrow, ?_⟩
              rw [boxLen_set (keep_append hrow4 hgrow HBX4.out (fun cs e => by cases e)), boxLen_eq cb]; omega
            | false =>
              have H63 := Lib.hid h63
              clear h63
              gi_wp2_with (gi_at_builtin; refine wpListIn_append_own _ rfl _ _ 108 rfl n₁ 112 ip (.agg #[.bool false, .nilFunc, .bool false]) 3 24 Tryd.underlying108 hip hp0 hp1 hp2 rfl (by decide) _ _ _ rfl (hrow4.alloc _) ⟨w4.heap.size, 0, none⟩ 1 1 [.bool false, .func (.func 63) #[] #[.pointer (some ⟨wr.heap.size, 0, none⟩)], .bool false] rfl rfl (cells_new _ [_, _, _] _) (by simp [Value.oneCell']) (by unfold maxLen; omega) (by omega) (by simp; omega) ?_; intro v' w5 hown' hgrow _; obtain ⟨g', cap', rfl⟩ := ownsRow_succ hown'; have hbx3 := keep_append hrow4 hgrow HBX4.out (fun cs e => by cases e); have c9 := blk_cell hbx3 0; have f9 := blk_frozen hbx3 0; simp at c9; clear hbx3)
              have HPC3 := Lib.hid (show pieces L = ps ++ (.lit b) :: pieces S' from by rw [HPC2.out]; rw [ofCh, if_neg (by rw [H42.out]; decide), if_neg (by rw [H63.out]; decide)])
              refine ⟨PI.step (p := (.lit b)) HPC3.out (by omega) (by omega) HBX4.out (HRD2.out _ (HRD.out.below hb4')) (HBK2.out _ (HBK.out.below hb4')) hrow4 (hreps.imp_ (fun _ _ h => h.below hb4'))
                ⟨_, q, rfl, HCH4.out⟩ rfl (hbw.trans (hb4'.mono hbw.size)) hlW hnw4 ((hb4'.block D (lt_of_get HDD.out)).trans HDD.out) hown' hgrow, ?_⟩
              rw [boxLen_set (keep_append hrow4 hgrow HBX4.out (fun cs e => by cases e)), boxLen_eq cb]; omega
  case stop =>
    rintro D c pre W _ _ h _
    exact h.elim
end Go.Proofs.YthbnnlhkcaomlaaDoor.Gl
