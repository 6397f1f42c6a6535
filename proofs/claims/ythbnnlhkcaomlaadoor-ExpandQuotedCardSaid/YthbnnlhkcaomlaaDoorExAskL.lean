/- What the walks of ask share. -/
import Derived.Test.YthbnnlhkcaomlaaDoorExAskS
import Derived.Deep.RegionWith
namespace Go.Proofs.YthbnnlhkcaomlaaDoor.Ex
open Go.RowKit Go.Shelf Go.Proofs.YthbnnlhkcaomlaaDoorW.PrintWords Go.Proofs.YthbnnlhkcaomlaaDoor.Gl

theorem itoa_call (n : Int) (h0 : -9223372036854775808 ≤ n) (h1 : n ≤ 9223372036854775807) (w : World) (ht : TabOk w) : Calls Tryd.prog 34 #[.int .i64 n] w fun e w' => e = .returned (.string (itoaB n)) ∧ Below w.heap.size w w' := by
  refine (Tryd.strconv_Itoa n h0 h1 w ht).mono ?_
  rintro e w' ⟨rfl, k, os, rfl⟩
  refine ⟨rfl, rfl, rfl, rfl, ?_, fun i hi => ?_⟩
  · show w.heap.size ≤ (w.heap ++ os).size
    rw [Array.size_append]; omega
  · show (w.heap ++ os)[i]? = _
    rw [Array.getElem?_append_left hi]

/-- The arguments that a parameter bears. -/
def ArgV (E' : Nat → Prop) (w w' : World) (av : Value) (l : List B) : Prop := ∃ A n c, av = .slice A n c ∧ n = l.length ∧ n ≤ c ∧ Kd.string.C w' A l.length l ∧ ∀ ad, A = some ad → w.heap.size ≤ ad.block ∧ ¬ E' ad.block ∧ Ty w' ad.block 9
theorem ArgV.none_ {E' : Nat → Prop} {w w' : World} : ArgV E' w w' (.slice none 0 0) [] := ⟨none, 0, 0, rfl, rfl, Nat.le_refl _, ⟨rfl, by decide, fun h => absurd h (by decide)⟩, fun _ e => by cases e⟩
def AskPost (E : Nat → Prop) (w : World) (g : Nat) (x : ParamT) (wv bv : Value) (e' : EnvT) (en : Ending) (w' : World) : Prop :=
  ∃ av E', en = .returned (paramV x wv bv av) ∧ ArgV E' w w' av x.args ∧ EnvAt E' w' g e' ∧ Mod E w w' ∧ ∀ k, k < w.heap.size → E' k → E k

/-- A box of ten cells, and of six. -/
theorem box_cells {w : World} {N : Nat} {t : TypeId} {cs : Array Value} (h : w.heap[N]? = some (.cells cs t (0, 0))) : (∀ j, w.cell? ⟨N, j, none⟩ = cs[j]?) ∧ (∀ j, w.frozen? ⟨N, j, none⟩ = false) ∧ N < w.heap.size :=
  ⟨fun j => blk_cell h j, fun j => blk_frozen h j, obj_lt h⟩
theorem env_lt {E : Nat → Prop} {w : World} {g : Nat} {e : EnvT} (h : EnvAt E w g e) {k : Nat} (hk : w.heap.size ≤ k) : ¬ E k := by
  obtain ⟨lv, A, c, sv, h⟩ := h
  intro he
  rcases h.ty k he with h | h | h <;> (have := h.lt; omega)
theorem EnvAt.tab {E : Nat → Prop} {w : World} {g : Nat} {e : EnvT} (h : EnvAt E w g e) : TabOk w := by obtain ⟨_, _, _, _, h⟩ := h; exact h.tab
theorem EnvAt.facts {E : Nat → Prop} {w : World} {g : Nat} {e : EnvT} (h : EnvAt E w g e) : e.args.length < big ∧ -9223372036854775808 ≤ e.status ∧ e.status ≤ 9223372036854775807 := by obtain ⟨_, _, _, _, h⟩ := h; exact ⟨h.len, h.stat⟩

theorem heap_same {w : World} {N i : Nat} {cs : Array Value} {t : TypeId} {u : Value} (h : w.heap[N]? = some (.cells cs t (0, 0))) : (w.setCell ⟨N, i, none⟩ u).heap[N]? = some (.cells (cs.setIfInBounds i u) t (0, 0)) := blk_set h i u
theorem heap_other {w : World} {M N i : Nat} {o : Obj} {u : Value} (h : w.heap[N]? = some o) (hne : N ≠ M) : (w.setCell ⟨M, i, none⟩ u).heap[N]? = some o := (Below.heap_setCell w ⟨M, i, none⟩ u N hne).trans h
set_option maxHeartbeats 1600000 in
set_option maxRecDepth 100000 in
theorem ask_end {post : Ending → World → Prop} {F : World} {a : Act} {N : Nat} {cs : Array Value} (hb : F.heap[N]? = some (.cells cs 75 (0, 0))) (hs : cs.size = 10) (h4 : a.tmps.getD 4 undef = .pointer (some ⟨N, 0, none⟩)) (hd : a.defers = []) (h : post (.returned (.agg cs)) F) :
    bodyPost Tryd.prog Tryd.f25 post .ret a F := by
  obtain ⟨p1, p2, p3⟩ := box_cells hb
  obtain ⟨l⟩ := cs
  match l, hs with
  | [c0, c1, c2, c3, c4, c5, c6, c7, c8, c9], _ =>
    have h4' : a.tmps[4]?.getD undef = .pointer (some ⟨N, 0, none⟩) := by simpa using h4
    refine bodyPost_ret (v := .agg #[c0, c1, c2, c3, c4, c5, c6, c7, c8, c9]) ?_ hd h
    simp [results, Tryd.results25, go_sem, h4', p1]
theorem heap_same_to {w : World} {N i : Nat} {cs ds : Array Value} {t : TypeId} {u : Value} (h : w.heap[N]? = some (.cells cs t (0, 0))) (e : cs.setIfInBounds i u = ds) : (w.setCell ⟨N, i, none⟩ u).heap[N]? = some (.cells ds t (0, 0)) := e ▸ blk_set h i u
/-- The ten stores of the result, read again. -/
theorem ten_sets {G : World} {N : Nat} {z0 z1 z2 z3 z4 z5 z6 z7 z8 z9 c0 c1 c2 c3 c4 c5 c6 c7 c8 c9 : Value} {t : TypeId} (h : G.heap[N]? = some (.cells #[z0, z1, z2, z3, z4, z5, z6, z7, z8, z9] t (0, 0))) :
    ((((((((((G.setCell ⟨N, 0, none⟩ c0).setCell ⟨N, 1, none⟩ c1).setCell ⟨N, 2, none⟩ c2).setCell ⟨N, 3, none⟩ c3).setCell ⟨N, 4, none⟩ c4).setCell ⟨N, 5, none⟩ c5).setCell ⟨N, 6, none⟩ c6).setCell ⟨N, 7, none⟩ c7).setCell ⟨N, 8, none⟩ c8).setCell ⟨N, 9, none⟩ c9).heap[N]? = some (.cells #[c0, c1, c2, c3, c4, c5, c6, c7, c8, c9] t (0, 0)) := by
  have h0 : (G.setCell ⟨N, 0, none⟩ c0).heap[N]? = some (.cells #[c0, z1, z2, z3, z4, z5, z6, z7, z8, z9] t (0, 0)) := heap_same_to h (by simp)
  have h1 : ((G.setCell ⟨N, 0, none⟩ c0).setCell ⟨N, 1, none⟩ c1).heap[N]? = some (.cells #[c0, c1, z2, z3, z4, z5, z6, z7, z8, z9] t (0, 0)) := heap_same_to h0 (by simp)
  have h2 : (((G.setCell ⟨N, 0, none⟩ c0).setCell ⟨N, 1, none⟩ c1).setCell ⟨N, 2, none⟩ c2).heap[N]? = some (.cells #[c0, c1, c2, z3, z4, z5, z6, z7, z8, z9] t (0, 0)) := heap_same_to h1 (by simp)
  have h3 : ((((G.setCell ⟨N, 0, none⟩ c0).setCell ⟨N, 1, none⟩ c1).setCell ⟨N, 2, none⟩ c2).setCell ⟨N, 3, none⟩ c3).heap[N]? = some (.cells #[c0, c1, c2, c3, z4, z5, z6, z7, z8, z9] t (0, 0)) := heap_same_to h2 (by simp)
  have h4 : (((((G.setCell ⟨N, 0, none⟩ c0).setCell ⟨N, 1, none⟩ c1).setCell ⟨N, 2, none⟩ c2).setCell ⟨N, 3, none⟩ c3).setCell ⟨N, 4, none⟩ c4).heap[N]? = some (.cells #[c0, c1, c2, c3, c4, z5, z6, z7, z8, z9] t (0, 0)) := heap_same_to h3 (by simp)
  have h5 : ((((((G.setCell ⟨N, 0, none⟩ c0).setCell ⟨N, 1, none⟩ c1).setCell ⟨N, 2, none⟩ c2).setCell ⟨N, 3, none⟩ c3).setCell ⟨N, 4, none⟩ c4).setCell ⟨N, 5, none⟩ c5).heap[N]? = some (.cells #[c0, c1, c2, c3, c4, c5, z6, z7, z8, z9] t (0, 0)) := heap_same_to h4 (by simp)
  have h6 : (((((((G.setCell ⟨N, 0, none⟩ c0).setCell ⟨N, 1, none⟩ c1).setCell ⟨N, 2, none⟩ c2).setCell ⟨N, 3, none⟩ c3).setCell ⟨N, 4, none⟩ c4).setCell ⟨N, 5, none⟩ c5).setCell ⟨N, 6, none⟩ c6).heap[N]? = some (.cells #[c0, c1, c2, c3, c4, c5, c6, z7, z8, z9] t (0, 0)) := heap_same_to h5 (by simp)
  have h7 : ((((((((G.setCell ⟨N, 0, none⟩ c0).setCell ⟨N, 1, none⟩ c1).setCell ⟨N, 2, none⟩ c2).setCell ⟨N, 3, none⟩ c3).setCell ⟨N, 4, none⟩ c4).setCell ⟨N, 5, none⟩ c5).setCell ⟨N, 6, none⟩ c6).setCell ⟨N, 7, none⟩ c7).heap[N]? = some (.cells #[c0, c1, c2, c3, c4, c5, c6, c7, z8, z9] t (0, 0)) := heap_same_to h6 (by simp)
  have h8 : (((((((((G.setCell ⟨N, 0, none⟩ c0).setCell ⟨N, 1, none⟩ c1).setCell ⟨N, 2, none⟩ c2).setCell ⟨N, 3, none⟩ c3).setCell ⟨N, 4, none⟩ c4).setCell ⟨N, 5, none⟩ c5).setCell ⟨N, 6, none⟩ c6).setCell ⟨N, 7, none⟩ c7).setCell ⟨N, 8, none⟩ c8).heap[N]? = some (.cells #[c0, c1, c2, c3, c4, c5, c6, c7, c8, z9] t (0, 0)) := heap_same_to h7 (by simp)
  have h9 : ((((((((((G.setCell ⟨N, 0, none⟩ c0).setCell ⟨N, 1, none⟩ c1).setCell ⟨N, 2, none⟩ c2).setCell ⟨N, 3, none⟩ c3).setCell ⟨N, 4, none⟩ c4).setCell ⟨N, 5, none⟩ c5).setCell ⟨N, 6, none⟩ c6).setCell ⟨N, 7, none⟩ c7).setCell ⟨N, 8, none⟩ c8).setCell ⟨N, 9, none⟩ c9).heap[N]? = some (.cells #[c0, c1, c2, c3, c4, c5, c6, c7, c8, c9] t (0, 0)) := heap_same_to h8 (by simp)
  exact h9
theorem ask_end2 {post : Ending → World → Prop} {G : World} {a : Act} {N : Nat} {c0 c1 c2 c3 c4 c5 c6 c7 c8 c9 : Value} (hb : G.heap[N]? = some (.cells #[.int .i64 0, .string ⟨#[]⟩, .string ⟨#[]⟩, .bool false, .slice none 0 0, .pointer none, .string ⟨#[]⟩, .bool false, .slice none 0 0, .bool false] 75 (0, 0))) (h4 : a.tmps.getD 4 undef = .pointer (some ⟨N, 0, none⟩)) (hd : a.defers = [])
    (h : post (.returned (.agg #[c0, c1, c2, c3, c4, c5, c6, c7, c8, c9])) ((((((((((G.setCell ⟨N, 0, none⟩ c0).setCell ⟨N, 1, none⟩ c1).setCell ⟨N, 2, none⟩ c2).setCell ⟨N, 3, none⟩ c3).setCell ⟨N, 4, none⟩ c4).setCell ⟨N, 5, none⟩ c5).setCell ⟨N, 6, none⟩ c6).setCell ⟨N, 7, none⟩ c7).setCell ⟨N, 8, none⟩ c8).setCell ⟨N, 9, none⟩ c9)) : bodyPost Tryd.prog Tryd.f25 post .ret a ((((((((((G.setCell ⟨N, 0, none⟩ c0).setCell ⟨N, 1, none⟩ c1).setCell ⟨N, 2, none⟩ c2).setCell ⟨N, 3, none⟩ c3).setCell ⟨N, 4, none⟩ c4).setCell ⟨N, 5, none⟩ c5).setCell ⟨N, 6, none⟩ c6).setCell ⟨N, 7, none⟩ c7).setCell ⟨N, 8, none⟩ c8).setCell ⟨N, 9, none⟩ c9) :=
  ask_end (ten_sets hb) rfl h4 hd h
theorem set_in {S : Nat → Prop} {a w : World} {M i : Nat} {u : Value} (h : Mod S a w) (hM : S M) : Mod S a (w.setCell ⟨M, i, none⟩ u) := h.setCell (fun _ => hM) u
theorem ten_mod {S : Nat → Prop} {G : World} {N : Nat} {c0 c1 c2 c3 c4 c5 c6 c7 c8 c9 : Value} (hN : S N) : Mod S G ((((((((((G.setCell ⟨N, 0, none⟩ c0).setCell ⟨N, 1, none⟩ c1).setCell ⟨N, 2, none⟩ c2).setCell ⟨N, 3, none⟩ c3).setCell ⟨N, 4, none⟩ c4).setCell ⟨N, 5, none⟩ c5).setCell ⟨N, 6, none⟩ c6).setCell ⟨N, 7, none⟩ c7).setCell ⟨N, 8, none⟩ c8).setCell ⟨N, 9, none⟩ c9) :=
  ((((((((((Mod.refl S G).setCell (p := ⟨N, 0, none⟩) (fun _ => hN) c0).setCell (p := ⟨N, 1, none⟩) (fun _ => hN) c1).setCell (p := ⟨N, 2, none⟩) (fun _ => hN) c2).setCell (p := ⟨N, 3, none⟩) (fun _ => hN) c3).setCell (p := ⟨N, 4, none⟩) (fun _ => hN) c4).setCell (p := ⟨N, 5, none⟩) (fun _ => hN) c5).setCell (p := ⟨N, 6, none⟩) (fun _ => hN) c6).setCell (p := ⟨N, 7, none⟩) (fun _ => hN) c7).setCell (p := ⟨N, 8, none⟩) (fun _ => hN) c8).setCell (p := ⟨N, 9, none⟩) (fun _ => hN) c9
/-- What ask leaves: the environment's call, calls that make memory alone, and stores into its own boxes. -/
theorem ask_fin {E E' : Nat → Prop} {w W w1 w2 F : World} {g : Nat} {e e' : EnvT} {N1 N2 : Nat} (hE : EnvAt E w g e) (hW : Below w.heap.size w W) (hE1 : EnvAt E' w1 g e') (hm1 : Mod E W w1) (hs1 : ∀ k, k < W.heap.size → E' k → E k) (hb2 : Below w1.heap.size w1 w2)
    (h1 : w.heap.size ≤ N1) (h2 : w.heap.size ≤ N2) (t1 : Ty w1 N1 75) (t2 : Ty w1 N2 75) (l1 : N1 < W.heap.size) (l2 : N2 < W.heap.size) (hF : Mod (fun k => k = N1 ∨ k = N2) w2 F) :
    EnvAt E' F g e' ∧ Mod E w F ∧ ∀ k, k < w.heap.size → E' k → E k := by
  have hE2 : EnvAt E' w2 g e' := hE1.below hb2
  have n1 : ¬ E' N1 := fun h => env_lt hE h1 (hs1 _ l1 h)
  have n2 : ¬ E' N2 := fun h => env_lt hE h2 (hs1 _ l2 h)
  obtain ⟨lv, A, c, sv, hi⟩ := hE2
  have t1' : Ty w2 N1 75 := t1.mod (S := fun _ => False) (Mod.below hb2) (fun e => e)
  have t2' : Ty w2 N2 75 := t2.mod (S := fun _ => False) (Mod.below hb2) (fun e => e)
  refine ⟨⟨lv, A, c, sv, hi.mod hF ?_ ?_ ?_ ?_⟩, ?_, fun k hk he => hs1 k (Nat.lt_of_lt_of_le hk hW.size) he⟩
  · rintro k (rfl | rfl)
    · exact n1
    · exact n2
  · rintro ad a b (h | h)
    · exact (t1'.ne (h ▸ (hi.hE ad a b).2) (by decide)) rfl
    · exact (t2'.ne (h ▸ (hi.hE ad a b).2) (by decide)) rfl
  · rintro k (rfl | rfl) h2
    · exact (t1'.ne h2 (by decide)) rfl
    · exact (t2'.ne h2 (by decide)) rfl
  · have hT := hi.tab
    rintro (h | h)
    all_goals
      unfold TabOk Lib.TabIs World.var? at hT
      rw [show Tryd.prog.globalNamed tabName = some 0 from by kernel_rfl] at hT
      have hlt : 0 < w.heap.size := by
        have hT0 := hE.tab
        unfold TabOk Lib.TabIs World.var? at hT0
        rw [show Tryd.prog.globalNamed tabName = some 0 from by kernel_rfl] at hT0
        simp only [Option.bind_some] at hT0
        cases hh : w.heap[0]? with
        | none => rw [hh] at hT0; cases hT0
        | some o => exact obj_lt hh
      omega
  · have hm2 : Mod E w w2 := ((Mod.below hW).trans hm1 (fun _ _ h => h)).trans (S' := fun _ => False) (Mod.below hb2) (fun _ _ e => e.elim)
    refine hm2.trans hF ?_
    rintro i hi (rfl | rfl) <;> omega
/-- The environment's methods, as a call through the interface finds them (266: the model's bound on how deep it looks, of this dump). -/
theorem inv_args (a : Option Addr) (w : World) : (method 266 28 (.pointer a) "Args").run Tryd.prog w = .ok (100, .pointer a) w := by kernel_rfl
theorem inv_get (a : Option Addr) (w : World) : (method 266 28 (.pointer a) "Get").run Tryd.prog w = .ok (101, .pointer a) w := by kernel_rfl
theorem inv_set (a : Option Addr) (w : World) : (method 266 28 (.pointer a) "Set").run Tryd.prog w = .ok (102, .pointer a) w := by kernel_rfl
theorem inv_status (a : Option Addr) (w : World) : (method 266 28 (.pointer a) "Status").run Tryd.prog w = .ok (103, .pointer a) w := by kernel_rfl
theorem inv_subst (a : Option Addr) (w : World) : (method 266 28 (.pointer a) "Subst").run Tryd.prog w = .ok (104, .pointer a) w := by kernel_rfl
theorem askP_some {e e' : EnvT} {p : PartT} {x : ParamT} (h : askP e p = some (x, e')) : ∃ v st l, askV e p.text = some ((v, st, l), e') ∧ x = ⟨p, v, st, l, !st || (hasColon p.op && decide (v = ⟨#[]⟩))⟩ := by
  unfold askP at h
  rw [Option.map_eq_some_iff] at h
  obtain ⟨⟨⟨v, st, l⟩, e1⟩, h1, h2⟩ := h
  cases h2
  exact ⟨v, st, l, h1, rfl⟩
theorem three_new (w : World) (o1 o2 o3 : Obj) : (((w.alloc o1).alloc o2).alloc o3).heap[w.heap.size]? = some o1 ∧ (((w.alloc o1).alloc o2).alloc o3).heap[w.heap.size + 1]? = some o2 ∧ (((w.alloc o1).alloc o2).alloc o3).heap[w.heap.size + 1 + 1]? = some o3 := by
  refine ⟨?_, ?_, ?_⟩
  · rw [heap_alloc_old _ _ (by simp; omega), heap_alloc_old _ _ (by simp)]
    exact heap_alloc_new w o1
  · rw [heap_alloc_old _ _ (by simp)]
    have := heap_alloc_new (w.alloc o1) o2
    simpa using this
  · have := heap_alloc_new ((w.alloc o1).alloc o2) o3
    simpa using this
theorem below_obj {w w1 : World} (hb : Below w.heap.size w w1) {N : Nat} {o : Obj} (h : w.heap[N]? = some o) : w1.heap[N]? = some o := (hb.block N (obj_lt h)).trans h
theorem keep_obj {E : Nat → Prop} {w w1 : World} {g : Nat} {e : EnvT} {N : Nat} {o : Obj} {W : World} (h : EnvAt E w g e) (hm : Mod E W w1) (hN : w.heap.size ≤ N) (ho : W.heap[N]? = some o) : w1.heap[N]? = some o := hm.obj ho (env_lt h hN)

theorem isEmpty_eq (V : B) : V.toList.isEmpty = decide (V = ⟨#[]⟩) := by
  by_cases h : V = ⟨#[]⟩
  · subst h; rw [Lib.toList_data]; rfl
  · have h1 : ¬ V.toList = [] := ne_lit h
    rw [decide_eq_false h]
    cases hl : V.toList with
    | nil => exact absurd hl h1
    | cons a l => rfl


end Go.Proofs.YthbnnlhkcaomlaaDoor.Ex
