/- The walks of ExpandTrims' closure and of ExpandTrims. -/
import Derived.Test.YthbnnlhkcaomlaaDoorExTrimsP
namespace Go.Proofs.YthbnnlhkcaomlaaDoor.Ex
set_option linter.unusedSimpArgs false
open Go.RowKit Go.Shelf Go.Proofs.YthbnnlhkcaomlaaDoorW.PrintWords Go.Proofs.YthbnnlhkcaomlaaDoorW.PrintLast Go.Proofs.YthbnnlhkcaomlaaDoor.Gl

def vL (v : B) : List (B × B) := [(⟨#[118]⟩, v)]
def vE (v : B) : EnvT := ⟨vL v, [], 0, []⟩
def vE1 (v : B) : EnvT := ⟨vL v, [], 0, [⟨#[103, 101, 116, 32, 118]⟩]⟩
def vPart (op : B) (word : List PartT) : PartT := .mk 2 ⟨#[118]⟩ op true word none
theorem ask_v (op : B) (hop : op = oH ∨ op = oHH ∨ op = oP ∨ op = oPP) (word : List PartT) (v : B) : askP (vE v) (vPart op word) = some (⟨vPart op word, v, true, [], false⟩, vE1 v) := by
  rcases hop with rfl | rfl | rfl | rfl <;> rfl
theorem trim_val (op : B) (hop : op = oH ∨ op = oHH ∨ op = oP ∨ op = oPP) (word : List PartT) (v : B) (hv : v.size ≤ 1099511627776) (out : List Rn) (ho : out.length ≤ 1000) (hc : (charsOf out).length ≤ 1099511627776) (hw : expandP 19 2 word (vE1 v) = some ([out], 0, vE1 v)) :
    expandP 20 1 [vPart op word] (vE v) = some ([[⟨cutF (charsOf out) op v (v.size + 1) 0, true, false⟩]], 0, vE1 v) := by
  have hk : knownOp op = true := by rcases hop with rfl | rfl | rfl | rfl <;> rfl
  have hs : 0 < op.size := by rcases hop with rfl | rfl | rfl | rfl <;> decide
  have hf : flatP 0 [out] [] = some out := by
    unfold flatP
    rw [if_pos ⟨by decide, by unfold big; omega⟩]
    rfl
  have hm : methodP (expandP 19 2) ⟨vPart op word, v, true, [], false⟩ ⟨[], []⟩ (vE1 v) = trimP (expandP 19 2) ⟨vPart op word, v, true, [], false⟩ ⟨[], []⟩ (vE1 v) := by
    rcases hop with rfl | rfl | rfl | rfl <;> rfl
  have ht : trimP (expandP 19 2) ⟨vPart op word, v, true, [], false⟩ ⟨[], []⟩ (vE1 v) = some (0, ⟨[], [⟨cutF (charsOf out) op v (v.size + 1) 0, true, false⟩]⟩, vE1 v) := by
    unfold trimP
    rw [show expandP 19 2 (PartT.word (vPart op word)) (vE1 v) = _ from hw]
    simp only [Option.bind_some]
    rw [if_neg (by simp), hf]
    simp only [Option.bind_some]
    rw [if_pos ⟨hc, hv, hs⟩]
    rfl
  have hp : paramP (expandP 19 2) (vPart op word) ⟨[], []⟩ (vE v) = some (0, ⟨[], [⟨cutF (charsOf out) op v (v.size + 1) 0, true, false⟩]⟩, vE1 v) := by
    unfold paramP
    rw [ask_v op hop word v]
    simp only [Option.bind_some]
    rw [if_pos (show knownOp (PartT.op (vPart op word)) = true from hk), if_pos ⟨hv, by show 0 < big; decide⟩, hm, ht]
  show loopP (expandP 19 2) 1 [vPart op word] ⟨[], []⟩ (vE v) = _
  unfold loopP
  rw [if_neg (by show ¬ ((2 : Int) < 0 ∨ 3 < (2 : Int)); decide)]
  unfold partP
  rw [if_neg (by show ¬ (2 : Int) = 0; decide), if_neg (by show ¬ (2 : Int) = 1; decide), if_pos (show PartT.kind (vPart op word) = 2 from rfl), hp]
  rfl
def wStar : List PartT := [leaf 0 ⟨#[42]⟩ ⟨#[]⟩ false]
def wQuo (t : B) : List PartT := [leaf 1 t ⟨#[]⟩ true]
def wBoth (t : B) : List PartT := [leaf 0 ⟨#[42]⟩ ⟨#[]⟩ false, leaf 1 t ⟨#[]⟩ true]
theorem star_word (v : B) : expandP 19 2 wStar (vE1 v) = some ([[starR]], 0, vE1 v) := rfl
theorem quo_word (t v : B) : expandP 19 2 (wQuo t) (vE1 v) = some ([[quoR t]], 0, vE1 v) := rfl
theorem both_word (t v : B) : expandP 19 2 (wBoth t) (vE1 v) = some ([[starR, quoR t]], 0, vE1 v) := rfl

theorem PartAt.imp {P P' : Nat → Prop} {w : World} (hP : ∀ k, P k → P' k) : ∀ (d : Nat) (p : PartT) (cs : List Value), PartAt d P w p cs → PartAt d P' w p cs
  | 0, _, _, h => h.elim
  | d + 1, p, cs, ⟨A, n, c, ba, e, hc, ⟨h1, h2, h3⟩, hb⟩ => ⟨A, n, c, ba, e, hc, ⟨h1, h2, fun hn => by
      obtain ⟨ad, ea, hp, hq⟩ := h3 hn
      refine ⟨ad, ea, hP _ hp, fun j q hj => ?_⟩
      obtain ⟨qs, hl, hpa, hcell⟩ := hq j q hj
      exact ⟨qs, hl, PartAt.imp hP d q qs hpa, hcell⟩⟩, by
      cases hbb : p.body with
      | none => rw [hbb] at hb; exact hb
      | some nb =>
        rw [hbb] at hb
        obtain ⟨ad, e1, h4, h5, h6⟩ := hb
        exact ⟨ad, e1, h4, h5, hP _ h6⟩⟩
theorem WordAt.imp {d : Nat} {P P' : Nat → Prop} {w : World} {A : Option Addr} {n : Nat} {ps : List PartT} (h : WordAt d P w A n ps) (hP : ∀ k, P k → P' k) : WordAt d P' w A n ps :=
  ⟨h.1, h.2.1, fun hn => by
    obtain ⟨ad, ea, hp, hq⟩ := h.2.2 hn
    refine ⟨ad, ea, hP _ hp, fun j q hj => ?_⟩
    obtain ⟨qs, hl, hpa, hcell⟩ := hq j q hj
    exact ⟨qs, hl, PartAt.imp hP d q qs hpa, hcell⟩⟩
/-- The closure's word: the value with its operator and word. -/
theorem trimc_word {d : Nat} {op : B} {word : List PartT} {A : Option Addr} {n c NR NG : Nat} {w X : World} {ev : Array Value} (h : WordAt d (fun _ => True) w A n word ∧ n ≤ c) (hB : Below w.heap.size w X) (h3 : X.heap[NR]? = some (.cells #[.int .i64 2, .string ⟨#[118]⟩, .string op, .bool true, .slice A n c, .pointer none] 47 (0, 0))) (h6 : X.heap[NG]? = some (.cells ev 31 (0, 0))) (b6 : w.heap.size ≤ NG) :
    WordAt (d + 1) (fun k => k ≠ NG) X (some ⟨NR, 0, none⟩) 1 [vPart op word] := by
  have hw : WordAt d (fun k => k ≠ NG) X A n word := ((h.1.lt.below hB).imp (fun k hk => by have := hk.2; omega))
  exact word_row (ps := [vPart op word]) (rows := [[.int .i64 2, .string ⟨#[118]⟩, .string op, .bool true, .slice A n c, .pointer none]]) h3 (Ty.ne ⟨_, _, h3⟩ ⟨_, _, h6⟩ (by decide)) (by show (1 : Nat) ≤ 1000; omega) rfl rfl (fun j q qs h1 h2 => by
    match j, h1, h2 with
    | 0, h1, h2 => cases h1; cases h2; exact ⟨rfl, part_at hw h.2 _ _ _ _⟩)

set_option maxHeartbeats 6400000 in
set_option maxRecDepth 100000 in
theorem trimc_w {d : Nat} (op : B) (word : List PartT) (v R : B) (NL NB : Nat) (A : Option Addr) (n c : Nat) (w : World) (hT : TabOk w) (hV : VarsAt w (.slice (some ⟨NL, 0, none⟩) 1 1) none 0 (vL v) []) (hB : w.heap[NB]? = some (.cells #[.slice (some ⟨NL, 0, none⟩) 1 1, .slice none 0 0, .int .i64 0] 26 (0, 0)))
    (hw : WordAt d (fun _ => True) w A n word) (hc : n ≤ c) (h : expandP 20 1 [vPart op word] (vE v) = some ([[⟨R, true, false⟩]], 0, vE1 v)) :
    Calls Tryd.prog 15 #[.string op, .slice A n c, .pointer (some ⟨NB, 0, none⟩)] w fun en w' => en = .returned (.string R) ∧ Below w.heap.size w w' := by
  have HT := Lib.hid hT
  have HV := Lib.hid hV
  have HX := Lib.hid hB
  have HW := Lib.hid (And.intro (And.intro hw hc) h)
  clear hT hV hB hw h
  go_enter Tryd.func15, Tryd.ntmps15
  go_wp2
  have hB := drew_0 w
  -- REGION 1 (printed by wip/gen-trimc.py)
  refine start_ (n := 14) (S := fun w' => w'.cell? ⟨NB, 0, none⟩ = some (.slice (some ⟨NL, 0, none⟩) 1 1) ∧ w'.cell? ⟨NB, 1, none⟩ = some (.slice none 0 0) ∧ w'.cell? ⟨NB, 2, none⟩ = some (.int .i64 0)) (ds := []) #[false, false, false, false, false, false, false, false, false, false, false, false, false, false] (by kernel_rfl) rfl rfl ⟨((blk_cell (below_obj hB HX.out) 0).trans rfl), ((blk_cell (below_obj hB HX.out) 1).trans rfl), ((blk_cell (below_obj hB HX.out) 2).trans rfl)⟩ (fun hHeld => ?_)
  refine pure_ (i := 0) (N := some 9) (v := ?_) (a' := ?_) #[true, false, false, false, false, false, false, false, false, false, false, false, false, false] rfl rfl (by kernel_rfl) (fun _ _ _ h => h) (Or.inl ⟨by rfl, ?_⟩) ?_ ?_
  rotate_left
  · intro w'
    go_simp
    with_reducible rfl
  rotate_left
  · simp only [Act.put, List.setIfInBounds_toArray, List.set_cons_zero, List.set_cons_succ, i64_w, i32_w]
    rfl
  refine pure_ (i := 1) (N := some 10) (v := ?_) (a' := ?_) #[true, true, false, false, false, false, false, false, false, false, false, false, false, false] rfl rfl (by kernel_rfl) (fun _ _ _ h => h) (Or.inl ⟨by rfl, ?_⟩) ?_ ?_
  rotate_left
  · intro w'
    go_simp
    with_reducible rfl
  rotate_left
  · simp only [Act.put, List.setIfInBounds_toArray, List.set_cons_zero, List.set_cons_succ, i64_w, i32_w]
    rfl
  refine take_ (i := 4) (N := some 13) (v := ?_) (a' := ?_) #[true, true, false, false, true, false, false, false, false, false, false, false, false, false] rfl rfl (by kernel_rfl) (fun _ _ _ h => h) (Or.inl ⟨by rfl, ?_⟩) hHeld ?_ ?_
  rotate_left
  · rintro w' ⟨s0, s1, s2⟩
    go_simp
    with_reducible rfl
  rotate_left
  · simp only [Act.put, List.setIfInBounds_toArray, List.set_cons_zero, List.set_cons_succ, i64_w, i32_w]
    rfl
  refine pure_ (i := 5) (N := some 14) (v := ?_) (a' := ?_) #[true, true, false, false, true, true, false, false, false, false, false, false, false, false] rfl rfl (by kernel_rfl) (fun _ _ _ h => h) (Or.inl ⟨by rfl, ?_⟩) ?_ ?_
  rotate_left
  · intro w'
    go_simp
    with_reducible rfl
  rotate_left
  · simp only [Act.put, List.setIfInBounds_toArray, List.set_cons_zero, List.set_cons_succ, i64_w, i32_w]
    rfl
  refine join_ (σ := Nat × Nat) 6 #[true, true, true, true, true, true, true, true, false, false, false, false, false, false] (fun s => [(11, Value.agg #[.int .i64 2, .string ⟨#[118]⟩, .string op, .bool true, .slice A n c, .pointer none]), (12, Value.slice (some ⟨s.1, 0, none⟩) 1 1), (15, Value.pointer (some ⟨s.2, 0, none⟩)), (16, Value.iface 28 (.pointer (some ⟨s.2, 0, none⟩)))]) (fun s w' => Below w.heap.size w w' ∧ w'.heap[s.1]? = some (.cells #[.int .i64 2, .string ⟨#[118]⟩, .string op, .bool true, .slice A n c, .pointer none] 47 (0, 0)) ∧ w.heap.size ≤ s.1 ∧ w'.heap[s.2]? = some (.cells #[.slice (some ⟨NL, 0, none⟩) 1 1, .slice none 0 0, .int .i64 0, .slice none 0 0] 31 (0, 0)) ∧ w.heap.size ≤ s.2) ?_ ?_
  rotate_left
  · intro hJ2_3_6
    refine join_ (σ := Nat) 8 #[true, true, true, true, true, true, false, false, false, false, false, false, false, false] (fun s => [(11, Value.agg #[.int .i64 2, .string ⟨#[118]⟩, .string op, .bool true, .slice A n c, .pointer none]), (12, Value.slice (some ⟨s, 0, none⟩) 1 1)]) (fun s w' => Below w.heap.size w w' ∧ w'.heap[s]? = some (.cells #[.int .i64 2, .string ⟨#[118]⟩, .string op, .bool true, .slice A n c, .pointer none] 47 (0, 0)) ∧ w.heap.size ≤ s) ?_ ?_
    rotate_left
    · intro hJ2_3
      refine join_ (σ := Nat) 7 #[true, true, true, false, true, true, true, true, false, false, false, false, false, false] (fun s => [(11, Value.agg #[.int .i64 2, .string ⟨#[118]⟩, .string op, .bool true, .slice A n c, .pointer none]), (15, Value.pointer (some ⟨s, 0, none⟩)), (16, Value.iface 28 (.pointer (some ⟨s, 0, none⟩)))]) (fun s w' => Below w.heap.size w w' ∧ w'.heap[s]? = some (.cells #[.slice (some ⟨NL, 0, none⟩) 1 1, .slice none 0 0, .int .i64 0, .slice none 0 0] 31 (0, 0)) ∧ w.heap.size ≤ s) ?_ ?_
      rotate_left
      · intro hJ2_6
        refine join_ (σ := Unit) 9 #[true, true, true, false, true, true, false, false, false, false, false, false, false, false] (fun s => [(11, Value.agg #[.int .i64 2, .string ⟨#[118]⟩, .string op, .bool true, .slice A n c, .pointer none])]) (fun s w' => Below w.heap.size w w') ?_ ?_
        rotate_left
        · intro hJ2
          refine join_ (σ := Nat) 8 #[true, true, false, false, true, true, true, true, false, false, false, false, false, false] (fun s => [(15, Value.pointer (some ⟨s, 0, none⟩)), (16, Value.iface 28 (.pointer (some ⟨s, 0, none⟩)))]) (fun s w' => Below w.heap.size w w' ∧ w'.heap[s]? = some (.cells #[.slice (some ⟨NL, 0, none⟩) 1 1, .slice none 0 0, .int .i64 0, .slice none 0 0] 31 (0, 0)) ∧ w.heap.size ≤ s) ?_ ?_
          rotate_left
          · intro hJ6
            refine two_ (i := 2) (j := 6) (Ni := some 11) (Nj := some 15) #[true, true, true, false, true, true, false, false, false, false, false, false, false, false] #[true, true, false, false, true, true, true, false, false, false, false, false, false, false] rfl rfl rfl rfl (by kernel_rfl) (by decide) (by decide) (fun K hK => ?_) (fun K hK => ?_)
            · skip
              refine goes_ Tryd.func13 (by kernel_rfl) rfl #[.string ⟨#[118]⟩, .string op, .bool true, .slice A n c] (by rfl) rfl rfl (by simp only [List.map_toArray, List.map_cons, List.map_nil]; rfl) ?_
              with_reducible refine (par_w ⟨#[118]⟩ op true A n c w.drew).mono ?_
              rintro en w3 ⟨rfl, hb⟩
              refine ⟨_, rfl, ?_⟩
              refine hK.out _ _ ⟨((blk_cell (below_obj (hB.trans (hb.mono hB.size)) HX.out) 0).trans rfl), ((blk_cell (below_obj (hB.trans (hb.mono hB.size)) HX.out) 1).trans rfl), ((blk_cell (below_obj (hB.trans (hb.mono hB.size)) HX.out) 2).trans rfl)⟩ (fun hHeld => ?_)
              clear hK K
              refine norm_ (a' := ?_) ?_ ?_
              rotate_left
              · show Act.put _ (some 11) _ = _
                simp only [Act.put, List.setIfInBounds_toArray, List.set_cons_zero, List.set_cons_succ, i64_w, i32_w]
                rfl
              exact norm_ (by first | (simp only [putAll, Act.put, List.setIfInBounds_toArray, List.set_cons_zero, List.set_cons_succ]; done) | (simp only [putAll, Act.put, List.setIfInBounds_toArray, List.set_cons_zero, List.set_cons_succ]; rfl)) (hJ2 () _ (hB.trans (hb.mono hB.size)))
            · skip
              refine value_ (w1 := ?_) (v := ?_) (by rfl) rfl ?_ ?_
              rotate_left 2
              · go_simp
                constructor
                · rfl
                · rfl
              refine hK.out _ _ ⟨((blk_cell (below_obj (hB.alloc hB.size _) HX.out) 0).trans rfl), ((blk_cell (below_obj (hB.alloc hB.size _) HX.out) 1).trans rfl), ((blk_cell (below_obj (hB.alloc hB.size _) HX.out) 2).trans rfl)⟩ (fun hHeld => ?_)
              clear hK K
              refine norm_ (a' := ?_) ?_ ?_
              rotate_left
              · show Act.put _ (some 15) _ = _
                simp only [Act.put, List.setIfInBounds_toArray, List.set_cons_zero, List.set_cons_succ, i64_w, i32_w]
                rfl
              refine pure_ (i := 7) (N := some 16) (v := ?_) (a' := ?_) #[true, true, false, false, true, true, true, true, false, false, false, false, false, false] rfl rfl (by kernel_rfl) (fun _ _ _ h => h) (Or.inl ⟨by rfl, ?_⟩) ?_ ?_
              rotate_left
              · intro w'
                go_simp
                with_reducible rfl
              rotate_left
              · simp only [Act.put, List.setIfInBounds_toArray, List.set_cons_zero, List.set_cons_succ, i64_w, i32_w]
                rfl
              exact norm_ (by first | (simp only [putAll, Act.put, List.setIfInBounds_toArray, List.set_cons_zero, List.set_cons_succ]; done) | (simp only [putAll, Act.put, List.setIfInBounds_toArray, List.set_cons_zero, List.set_cons_succ]; rfl)) (hJ6 (w.drew.heap.size) _ ⟨hB.alloc hB.size _, heap_alloc_new _ _, hB.size⟩)
          · skip
            rintro NG X ⟨hB, h6, b6⟩
            have hHeld : X.cell? ⟨NB, 0, none⟩ = some (.slice (some ⟨NL, 0, none⟩) 1 1) ∧ X.cell? ⟨NB, 1, none⟩ = some (.slice none 0 0) ∧ X.cell? ⟨NB, 2, none⟩ = some (.int .i64 0) := ⟨((blk_cell (below_obj hB HX.out) 0).trans rfl), ((blk_cell (below_obj hB HX.out) 1).trans rfl), ((blk_cell (below_obj hB HX.out) 2).trans rfl)⟩
            try dsimp only at h6 b6
            refine norm_ (a' := ?_) ?_ ?_
            rotate_left
            · simp only [putAll, Act.put, List.setIfInBounds_toArray, List.set_cons_zero, List.set_cons_succ]
              rfl
            refine one_ (i := 2) (N := some 11) #[true, true, true, false, true, true, true, true, false, false, false, false, false, false] rfl rfl (by kernel_rfl) (by decide) (fun K hK => ?_)
            refine goes_ Tryd.func13 (by kernel_rfl) rfl #[.string ⟨#[118]⟩, .string op, .bool true, .slice A n c] (by rfl) rfl rfl (by simp only [List.map_toArray, List.map_cons, List.map_nil]; rfl) ?_
            with_reducible refine (par_w ⟨#[118]⟩ op true A n c X).mono ?_
            rintro en w3 ⟨rfl, hb⟩
            refine ⟨_, rfl, ?_⟩
            refine hK.out _ _ ⟨((blk_cell (below_obj (hB.trans (hb.mono hB.size)) HX.out) 0).trans rfl), ((blk_cell (below_obj (hB.trans (hb.mono hB.size)) HX.out) 1).trans rfl), ((blk_cell (below_obj (hB.trans (hb.mono hB.size)) HX.out) 2).trans rfl)⟩ (fun hHeld => ?_)
            clear hK K
            refine norm_ (a' := ?_) ?_ ?_
            rotate_left
            · show Act.put _ (some 11) _ = _
              simp only [Act.put, List.setIfInBounds_toArray, List.set_cons_zero, List.set_cons_succ, i64_w, i32_w]
              rfl
            exact norm_ (by first | (simp only [putAll, Act.put, List.setIfInBounds_toArray, List.set_cons_zero, List.set_cons_succ]; done) | (simp only [putAll, Act.put, List.setIfInBounds_toArray, List.set_cons_zero, List.set_cons_succ]; rfl)) (hJ2_6 (NG) _ ⟨hB.trans (hb.mono hB.size), below_obj hb h6, b6⟩)
        · skip
          rintro _ X hB
          have hHeld : X.cell? ⟨NB, 0, none⟩ = some (.slice (some ⟨NL, 0, none⟩) 1 1) ∧ X.cell? ⟨NB, 1, none⟩ = some (.slice none 0 0) ∧ X.cell? ⟨NB, 2, none⟩ = some (.int .i64 0) := ⟨((blk_cell (below_obj hB HX.out) 0).trans rfl), ((blk_cell (below_obj hB HX.out) 1).trans rfl), ((blk_cell (below_obj hB HX.out) 2).trans rfl)⟩
          skip
          refine norm_ (a' := ?_) ?_ ?_
          rotate_left
          · simp only [putAll, Act.put, List.setIfInBounds_toArray, List.set_cons_zero, List.set_cons_succ]
            rfl
          refine two_ (i := 3) (j := 6) (Ni := some 12) (Nj := some 15) #[true, true, true, true, true, true, false, false, false, false, false, false, false, false] #[true, true, true, false, true, true, true, false, false, false, false, false, false, false] rfl rfl rfl rfl (by kernel_rfl) (by decide) (by decide) (fun K hK => ?_) (fun K hK => ?_)
          · skip
            refine value_ (w1 := ?_) (v := ?_) (by rfl) rfl ?_ ?_
            rotate_left 2
            · go_simp
              constructor
              · rfl
              · rfl
            refine hK.out _ _ ⟨((blk_cell (below_obj (hB.alloc hB.size _) HX.out) 0).trans rfl), ((blk_cell (below_obj (hB.alloc hB.size _) HX.out) 1).trans rfl), ((blk_cell (below_obj (hB.alloc hB.size _) HX.out) 2).trans rfl)⟩ (fun hHeld => ?_)
            clear hK K
            refine norm_ (a' := ?_) ?_ ?_
            rotate_left
            · show Act.put _ (some 12) _ = _
              simp only [Act.put, List.setIfInBounds_toArray, List.set_cons_zero, List.set_cons_succ, i64_w, i32_w]
              rfl
            exact norm_ (by first | (simp only [putAll, Act.put, List.setIfInBounds_toArray, List.set_cons_zero, List.set_cons_succ]; done) | (simp only [putAll, Act.put, List.setIfInBounds_toArray, List.set_cons_zero, List.set_cons_succ]; rfl)) (hJ2_3 (X.heap.size) _ ⟨hB.alloc hB.size _, heap_alloc_new _ _, hB.size⟩)
          · skip
            refine value_ (w1 := ?_) (v := ?_) (by rfl) rfl ?_ ?_
            rotate_left 2
            · go_simp
              constructor
              · rfl
              · rfl
            refine hK.out _ _ ⟨((blk_cell (below_obj (hB.alloc hB.size _) HX.out) 0).trans rfl), ((blk_cell (below_obj (hB.alloc hB.size _) HX.out) 1).trans rfl), ((blk_cell (below_obj (hB.alloc hB.size _) HX.out) 2).trans rfl)⟩ (fun hHeld => ?_)
            clear hK K
            refine norm_ (a' := ?_) ?_ ?_
            rotate_left
            · show Act.put _ (some 15) _ = _
              simp only [Act.put, List.setIfInBounds_toArray, List.set_cons_zero, List.set_cons_succ, i64_w, i32_w]
              rfl
            refine pure_ (i := 7) (N := some 16) (v := ?_) (a' := ?_) #[true, true, true, false, true, true, true, true, false, false, false, false, false, false] rfl rfl (by kernel_rfl) (fun _ _ _ h => h) (Or.inl ⟨by rfl, ?_⟩) ?_ ?_
            rotate_left
            · intro w'
              go_simp
              with_reducible rfl
            rotate_left
            · simp only [Act.put, List.setIfInBounds_toArray, List.set_cons_zero, List.set_cons_succ, i64_w, i32_w]
              rfl
            exact norm_ (by first | (simp only [putAll, Act.put, List.setIfInBounds_toArray, List.set_cons_zero, List.set_cons_succ]; done) | (simp only [putAll, Act.put, List.setIfInBounds_toArray, List.set_cons_zero, List.set_cons_succ]; rfl)) (hJ2_6 (X.heap.size) _ ⟨hB.alloc hB.size _, heap_alloc_new _ _, hB.size⟩)
      · skip
        rintro NG X ⟨hB, h6, b6⟩
        have hHeld : X.cell? ⟨NB, 0, none⟩ = some (.slice (some ⟨NL, 0, none⟩) 1 1) ∧ X.cell? ⟨NB, 1, none⟩ = some (.slice none 0 0) ∧ X.cell? ⟨NB, 2, none⟩ = some (.int .i64 0) := ⟨((blk_cell (below_obj hB HX.out) 0).trans rfl), ((blk_cell (below_obj hB HX.out) 1).trans rfl), ((blk_cell (below_obj hB HX.out) 2).trans rfl)⟩
        try dsimp only at h6 b6
        refine norm_ (a' := ?_) ?_ ?_
        rotate_left
        · simp only [putAll, Act.put, List.setIfInBounds_toArray, List.set_cons_zero, List.set_cons_succ]
          rfl
        refine one_ (i := 3) (N := some 12) #[true, true, true, true, true, true, true, true, false, false, false, false, false, false] rfl rfl (by kernel_rfl) (by decide) (fun K hK => ?_)
        refine value_ (w1 := ?_) (v := ?_) (by rfl) rfl ?_ ?_
        rotate_left 2
        · go_simp
          constructor
          · rfl
          · rfl
        refine hK.out _ _ ⟨((blk_cell (below_obj (hB.alloc hB.size _) HX.out) 0).trans rfl), ((blk_cell (below_obj (hB.alloc hB.size _) HX.out) 1).trans rfl), ((blk_cell (below_obj (hB.alloc hB.size _) HX.out) 2).trans rfl)⟩ (fun hHeld => ?_)
        clear hK K
        refine norm_ (a' := ?_) ?_ ?_
        rotate_left
        · show Act.put _ (some 12) _ = _
          simp only [Act.put, List.setIfInBounds_toArray, List.set_cons_zero, List.set_cons_succ, i64_w, i32_w]
          rfl
        exact norm_ (by first | (simp only [putAll, Act.put, List.setIfInBounds_toArray, List.set_cons_zero, List.set_cons_succ]; done) | (simp only [putAll, Act.put, List.setIfInBounds_toArray, List.set_cons_zero, List.set_cons_succ]; rfl)) (hJ2_3_6 (X.heap.size, NG) _ ⟨hB.alloc hB.size _, heap_alloc_new _ _, hB.size, below_obj (below_a _ _) h6, b6⟩)
    · skip
      rintro NR X ⟨hB, h3, b3⟩
      have hHeld : X.cell? ⟨NB, 0, none⟩ = some (.slice (some ⟨NL, 0, none⟩) 1 1) ∧ X.cell? ⟨NB, 1, none⟩ = some (.slice none 0 0) ∧ X.cell? ⟨NB, 2, none⟩ = some (.int .i64 0) := ⟨((blk_cell (below_obj hB HX.out) 0).trans rfl), ((blk_cell (below_obj hB HX.out) 1).trans rfl), ((blk_cell (below_obj hB HX.out) 2).trans rfl)⟩
      try dsimp only at h3 b3
      refine norm_ (a' := ?_) ?_ ?_
      rotate_left
      · simp only [putAll, Act.put, List.setIfInBounds_toArray, List.set_cons_zero, List.set_cons_succ]
        rfl
      refine one_ (i := 6) (N := some 15) #[true, true, true, true, true, true, true, false, false, false, false, false, false, false] rfl rfl (by kernel_rfl) (by decide) (fun K hK => ?_)
      refine value_ (w1 := ?_) (v := ?_) (by rfl) rfl ?_ ?_
      rotate_left 2
      · go_simp
        constructor
        · rfl
        · rfl
      refine hK.out _ _ ⟨((blk_cell (below_obj (hB.alloc hB.size _) HX.out) 0).trans rfl), ((blk_cell (below_obj (hB.alloc hB.size _) HX.out) 1).trans rfl), ((blk_cell (below_obj (hB.alloc hB.size _) HX.out) 2).trans rfl)⟩ (fun hHeld => ?_)
      clear hK K
      refine norm_ (a' := ?_) ?_ ?_
      rotate_left
      · show Act.put _ (some 15) _ = _
        simp only [Act.put, List.setIfInBounds_toArray, List.set_cons_zero, List.set_cons_succ, i64_w, i32_w]
        rfl
      refine pure_ (i := 7) (N := some 16) (v := ?_) (a' := ?_) #[true, true, true, true, true, true, true, true, false, false, false, false, false, false] rfl rfl (by kernel_rfl) (fun _ _ _ h => h) (Or.inl ⟨by rfl, ?_⟩) ?_ ?_
      rotate_left
      · intro w'
        go_simp
        with_reducible rfl
      rotate_left
      · simp only [Act.put, List.setIfInBounds_toArray, List.set_cons_zero, List.set_cons_succ, i64_w, i32_w]
        rfl
      exact norm_ (by first | (simp only [putAll, Act.put, List.setIfInBounds_toArray, List.set_cons_zero, List.set_cons_succ]; done) | (simp only [putAll, Act.put, List.setIfInBounds_toArray, List.set_cons_zero, List.set_cons_succ]; rfl)) (hJ2_3_6 (NR, X.heap.size) _ ⟨hB.alloc hB.size _, below_obj (below_a _ _) h3, b3, heap_alloc_new _ _, hB.size⟩)
  rintro ⟨NR, NG⟩ X ⟨hB, h3, b3, h6, b6⟩
  have hHeld : X.cell? ⟨NB, 0, none⟩ = some (.slice (some ⟨NL, 0, none⟩) 1 1) ∧ X.cell? ⟨NB, 1, none⟩ = some (.slice none 0 0) ∧ X.cell? ⟨NB, 2, none⟩ = some (.int .i64 0) := ⟨((blk_cell (below_obj hB HX.out) 0).trans rfl), ((blk_cell (below_obj hB HX.out) 1).trans rfl), ((blk_cell (below_obj hB HX.out) 2).trans rfl)⟩
  try dsimp only at h3 b3 h6 b6
  refine norm_ (a' := ?_) ?_ ?_
  rotate_left
  · simp only [putAll, Act.put, List.setIfInBounds_toArray, List.set_cons_zero, List.set_cons_succ]
    rfl
  refine one_ (i := 8) (N := some 17) #[true, true, true, true, true, true, true, true, true, false, false, false, false, false] rfl rfl (by kernel_rfl) (by decide) (fun K hK => ?_)
  have hcall := Expand_walk (d + 1) (fun k => k = NG) (fun k => k ≠ NG) NG (vE v) [vPart op word] _ _ _ _ X (show EnvAt (fun k => k = NG) X NG (vE v) from env_of_vars (w := w) (st := 0) HV.out hB b6 h6 HT.out (by decide)) (trimc_word HW.out.1 hB h3 h6 b6) (Nat.le_refl _) (fun k hk he => hk he) HW.out.2
  refine goes_ Tryd.func9 (by kernel_rfl) rfl #[.slice (some ⟨NR, 0, none⟩) 1 1, .iface 28 (.pointer (some ⟨NG, 0, none⟩))] (by rfl) rfl rfl (by simp only [List.map_toArray, List.map_cons, List.map_nil]; rfl) ?_
  with_reducible refine (hcall).mono ?_
  rintro en w2 ⟨A1, n1, c1, E', rfl, k2, k3, k4, k5, k6⟩
  refine ⟨_, rfl, ?_⟩
  have HB2 := Lib.hid (hB.trans (Mod.toBelow k5 (B := w.heap.size) hB.size (fun i hi he => Nat.lt_irrefl _ (Nat.lt_of_lt_of_le hi (he ▸ b6)))))
  have HR := Lib.hid (RowsAt.imp (P' := fun _ => True) k2 (fun _ _ => trivial))
  clear k2 k3 k4 k5 k6 hcall
  refine hK.out _ _ ⟨((blk_cell (below_obj HB2.out HX.out) 0).trans rfl), ((blk_cell (below_obj HB2.out HX.out) 1).trans rfl), ((blk_cell (below_obj HB2.out HX.out) 2).trans rfl)⟩ (fun hHeld => ?_)
  clear hK K
  refine norm_ (a' := ?_) ?_ ?_
  rotate_left
  · show Act.put _ (some 17) _ = _
    simp only [Act.put, List.setIfInBounds_toArray, List.set_cons_zero, List.set_cons_succ, i64_w, i32_w]
    rfl
  refine pure_ (i := 9) (N := some 8) (v := ?_) (a' := ?_) #[true, true, true, true, true, true, true, true, true, true, false, false, false, false] rfl rfl (by kernel_rfl) (fun _ _ _ h => h) (Or.inl ⟨by rfl, ?_⟩) ?_ ?_
  rotate_left
  · intro w'
    go_simp
    with_reducible rfl
  rotate_left
  · simp only [Act.put, List.setIfInBounds_toArray, List.set_cons_zero, List.set_cons_succ, i64_w, i32_w]
    rfl
  refine pure_ (i := 10) (N := some 18) (v := ?_) (a' := ?_) #[true, true, true, true, true, true, true, true, true, true, true, false, false, false] rfl rfl (by kernel_rfl) (fun _ _ _ h => h) (Or.inl ⟨by rfl, ?_⟩) ?_ ?_
  rotate_left
  · intro w'
    go_simp
    with_reducible rfl
  rotate_left
  · simp only [Act.put, List.setIfInBounds_toArray, List.set_cons_zero, List.set_cons_succ, i64_w, i32_w]
    rfl
  refine pure_ (i := 11) (N := some 19) (v := ?_) (a' := ?_) #[true, true, true, true, true, true, true, true, true, true, true, true, false, false] rfl rfl (by kernel_rfl) (fun _ _ _ h => h) (Or.inl ⟨by rfl, ?_⟩) ?_ ?_
  rotate_left
  · intro w'
    go_simp
    with_reducible rfl
  rotate_left
  · simp only [Act.put, List.setIfInBounds_toArray, List.set_cons_zero, List.set_cons_succ, i64_w, i32_w]
    rfl
  refine pure_ (i := 12) (N := some 6) (v := ?_) (a' := ?_) #[true, true, true, true, true, true, true, true, true, true, true, true, true, false] rfl rfl (by kernel_rfl) (fun _ _ _ h => h) (Or.inl ⟨by rfl, ?_⟩) ?_ ?_
  rotate_left
  · intro w'
    go_simp
    with_reducible rfl
  rotate_left
  · simp only [Act.put, List.setIfInBounds_toArray, List.set_cons_zero, List.set_cons_succ, i64_w, i32_w]
    rfl
  refine pure_ (i := 13) (N := some 7) (v := ?_) (a' := ?_) #[true, true, true, true, true, true, true, true, true, true, true, true, true, true] rfl rfl (by kernel_rfl) (fun _ _ _ h => h) (Or.inl ⟨by rfl, ?_⟩) ?_ ?_
  rotate_left
  · intro w'
    go_simp
    with_reducible rfl
  rotate_left
  · simp only [Act.put, List.setIfInBounds_toArray, List.set_cons_zero, List.set_cons_succ, i64_w, i32_w]
    rfl
  refine done_ (by kernel_rfl) ?_
  -- END OF REGION 1
  obtain ⟨hn1, hm1, hrd⟩ := HR.out
  have e1 : n1 = 1 := by simpa using hn1.symm
  subst e1
  obtain ⟨ad, rfl, -, hcell⟩ := hrd (by decide)
  obtain ⟨A', c', x1, x2, x3, -⟩ := hcell 0 [⟨R, true, false⟩] rfl
  obtain ⟨ar, rfl, y1, y2, y3⟩ := rn_at x3 (i := 0) (p := ⟨R, true, false⟩) rfl
  have z1 : w2.cell? ad = some (.slice (some ar) 1 c') := x1
  have z2 : w2.cell? ar = some (.string R) := y1
  clear hcell hrd x1 x2 x3 y1 y2 y3 hB
  go_wp2
  go_ret
  exact ⟨rfl, HB2.out⟩

section
variable (v t : B) (hv : v.size ≤ 1000) (ht : t.size ≤ 1000)
include hv in
theorem tv_1 : expandP 20 1 [vPart oH wStar] (vE v) = some ([[⟨v, true, false⟩]], 0, vE1 v) := by
  rw [trim_val oH (.inl rfl) wStar v (by omega) [starR] (by decide) (by decide) (star_word v), star_H]
include hv in
theorem tv_2 : expandP 20 1 [vPart oHH wStar] (vE v) = some ([[⟨⟨#[]⟩, true, false⟩]], 0, vE1 v) := by
  rw [trim_val oHH (.inr (.inl rfl)) wStar v (by omega) [starR] (by decide) (by decide) (star_word v), star_HH]
include hv in
theorem tv_3 : expandP 20 1 [vPart oP wStar] (vE v) = some ([[⟨v, true, false⟩]], 0, vE1 v) := by
  rw [trim_val oP (.inr (.inr (.inl rfl))) wStar v (by omega) [starR] (by decide) (by decide) (star_word v), star_P]
include hv in
theorem tv_4 : expandP 20 1 [vPart oPP wStar] (vE v) = some ([[⟨⟨#[]⟩, true, false⟩]], 0, vE1 v) := by
  rw [trim_val oPP (.inr (.inr (.inr rfl))) wStar v (by omega) [starR] (by decide) (by decide) (star_word v), star_PP]
theorem chars_q_len : (charsOf [quoR t]).length = t.size := by rw [chars_quo]; simp
theorem chars_sq_len : (charsOf [starR, quoR t]).length = t.size + 1 := by rw [chars_star, chars_quo]; simp
include hv ht
theorem tv_5 : expandP 20 1 [vPart oH (wQuo t)] (vE v) = some ([[⟨wantP v t, true, false⟩]], 0, vE1 v) := by
  rw [trim_val oH (.inl rfl) (wQuo t) v (by omega) [quoR t] (by simp) (by rw [chars_q_len]; omega) (quo_word t v), quo_H]
theorem tv_6 : expandP 20 1 [vPart oHH (wQuo t)] (vE v) = some ([[⟨wantP v t, true, false⟩]], 0, vE1 v) := by
  rw [trim_val oHH (.inr (.inl rfl)) (wQuo t) v (by omega) [quoR t] (by simp) (by rw [chars_q_len]; omega) (quo_word t v), quo_HH]
theorem tv_7 : expandP 20 1 [vPart oP (wQuo t)] (vE v) = some ([[⟨endP v t, true, false⟩]], 0, vE1 v) := by
  rw [trim_val oP (.inr (.inr (.inl rfl))) (wQuo t) v (by omega) [quoR t] (by simp) (by rw [chars_q_len]; omega) (quo_word t v), quo_P]
theorem tv_8 : expandP 20 1 [vPart oPP (wQuo t)] (vE v) = some ([[⟨endP v t, true, false⟩]], 0, vE1 v) := by
  rw [trim_val oPP (.inr (.inr (.inr rfl))) (wQuo t) v (by omega) [quoR t] (by simp) (by rw [chars_q_len]; omega) (quo_word t v), quo_PP]
theorem tv_9 : expandP 20 1 [vPart oH (wBoth t)] (vE v) = some ([[⟨cutFrom v t (firstN v t (v.size + 1 - t.size)), true, false⟩]], 0, vE1 v) := by
  rw [trim_val oH (.inl rfl) (wBoth t) v (by omega) [starR, quoR t] (by simp) (by rw [chars_sq_len]; omega) (both_word t v), sq_H]
theorem tv_10 : expandP 20 1 [vPart oHH (wBoth t)] (vE v) = some ([[⟨cutFrom v t (lastN v t (v.size + 1 - t.size)), true, false⟩]], 0, vE1 v) := by
  rw [trim_val oHH (.inr (.inl rfl)) (wBoth t) v (by omega) [starR, quoR t] (by simp) (by rw [chars_sq_len]; omega) (both_word t v), sq_HH]
end

end Go.Proofs.YthbnnlhkcaomlaaDoor.Ex
