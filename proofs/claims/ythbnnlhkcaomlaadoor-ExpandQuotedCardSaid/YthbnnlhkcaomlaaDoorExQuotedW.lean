/- The walk of ExpandQuoted. -/
import Derived.Test.YthbnnlhkcaomlaaDoorExQuotedA
import Derived.Test.YthbnnlhkcaomlaaDoorWFour
import Derived.Deep.DeepCutAuto
namespace Go.Proofs.YthbnnlhkcaomlaaDoor.Ex
set_option linter.unusedSimpArgs false
open Go.RowKit Go.Shelf Go.Proofs.YthbnnlhkcaomlaaDoorW.PrintWords Go.Proofs.YthbnnlhkcaomlaaDoorW.PrintLast Go.Proofs.YthbnnlhkcaomlaaDoor.Gl

def cutB (s : B) (n : Nat) : B := s.extract 0 (min (s.size : Int) (n : Int)).toNat
theorem cutB_size (s : B) (n : Nat) : (cutB s n).size ≤ n := by unfold cutB; rw [ByteArray.size_extract]; omega
def qOp (j : Nat) : B := match j % 4 with | 0 => ⟨#[]⟩ | 1 => ⟨#[45]⟩ | 2 => ⟨#[58, 63]⟩ | _ => ⟨#[61]⟩
theorem qOp_mem (j : Nat) : qOp j ∈ qOps := by
  unfold qOp qOps
  split <;> simp
def qIt (vals bets : List B) (j : Nat) : Itm := ⟨(bets[j]?).map fun t => cutB t 40, nameB j, qOp j, cutB (vals.getD j ⟨#[]⟩) 80⟩
def qIts (vals bets : List B) (k : Nat) : List Itm := (List.range k).map (qIt vals bets)
def qWant (vals bets : List B) (k : Nat) : B := (qIts vals bets k).foldl (fun a x => a ++ x.text) ⟨#[]⟩
theorem qIts_succ (vals bets : List B) (k : Nat) : qIts vals bets (k + 1) = qIts vals bets k ++ [qIt vals bets k] := by
  unfold qIts
  rw [List.range_succ, List.map_append]
  rfl
theorem itsL_succ (vals bets : List B) (k : Nat) : itsL (qIts vals bets (k + 1)) = itsL (qIts vals bets k) ++ [(nameB k, cutB (vals.getD k ⟨#[]⟩) 80)] := by
  rw [qIts_succ]
  unfold itsL
  rw [List.map_append]
  rfl
theorem qIts_len (vals bets : List B) (k : Nat) : (qIts vals bets k).length = k := by simp [qIts]
theorem itsL_len (vals bets : List B) (k : Nat) : (itsL (qIts vals bets k)).length = k := by simp [itsL, qIts]
theorem conv_name {w : World} {k : Nat} (h : k < 8) : (convert 42 9 (.slice (some ⟨w.heap.size, 0, none⟩) 2 2)).run Tryd.prog (w.alloc (.cells #[.int .u8 118, .int .u8 (97 + (k : Int))] 5)) = .ok (.string (nameB k)) (w.alloc (.cells #[.int .u8 118, .int .u8 (97 + (k : Int))] 5)) := by
  refine run_convert_bytes_back (P := Tryd.prog) _ 42 9 5 ⟨w.heap.size, 0, none⟩ 2 [118, UInt8.ofNat (97 + k)] Tryd.underlying42 Tryd.underlying5 Tryd.underlying9 ?_
  intro j hj
  have hb := heap_alloc_new w (.cells #[.int .u8 118, .int .u8 (97 + (k : Int))] 5)
  match j, hj with
  | 0, _ => exact (blk_cell hb 0).trans rfl
  | 1, _ =>
    refine (blk_cell hb 1).trans ?_
    have e : ((UInt8.ofNat (97 + k)).toNat : Int) = 97 + (k : Int) := by
      rw [UInt8.toNat_ofNat_of_lt' (by show 97 + k < 256; omega)]
      omega
    show some (Value.int .u8 (97 + (k : Int))) = some (Value.int .u8 ((UInt8.ofNat (97 + k)).toNat : Int))
    rw [e]
/-- An element of a list of texts. -/
theorem str_at {w : World} {A : Option Addr} {n : Nat} {xs : List B} (hC : Kd.string.C w A n xs) {i : Nat} {p : B} (hi : xs[i]? = some p) : ∃ ad, A = some ad ∧ w.cell? (ad.add i) = some (.string p) := by
  have hlt := (List.getElem?_eq_some_iff.1 hi).1
  obtain ⟨ad, e, hc⟩ := hC.2.2 (by have := hC.1; omega)
  obtain ⟨cs, _, hr, hcell⟩ := hc i p hi
  have h4 : cs = [.string p] := hr
  subst h4
  have h5 := hcell 0 _ rfl
  rw [show i * Kd.string.sz + 0 = i from by show i * 1 + 0 = i; omega] at h5
  exact ⟨ad, e, h5⟩
theorem parts_len (l : List Itm) : (l.flatMap Itm.parts).length ≤ 2 * l.length := by
  induction l with
  | nil => simp
  | cons x l ih =>
    rw [List.flatMap_cons, List.length_append, List.length_cons]
    have : x.parts.length ≤ 2 := by
      obtain ⟨b, nm, op, v⟩ := x
      cases b <;> simp [Itm.parts, Itm.quo]
    omega
theorem text_size (vals bets : List B) (j : Nat) : (qIt vals bets j).text.size ≤ 120 := by
  have h2 := cutB_size (vals.getD j ⟨#[]⟩) 80
  unfold qIt Itm.text
  cases bets[j]? with
  | none =>
    show ((⟨#[]⟩ : B) ++ cutB _ 80).size ≤ 120
    rw [ByteArray.size_append]
    have : (⟨#[]⟩ : B).size = 0 := rfl
    omega
  | some t =>
    show (cutB t 40 ++ cutB _ 80).size ≤ 120
    have h1 := cutB_size t 40
    rw [ByteArray.size_append]
    omega
theorem qWant_succ (vals bets : List B) (k : Nat) : qWant vals bets (k + 1) = qWant vals bets k ++ (qIt vals bets k).text := by
  unfold qWant
  rw [qIts_succ, List.foldl_append]
  rfl
theorem qWant_size (vals bets : List B) : ∀ k, (qWant vals bets k).size ≤ 120 * k
  | 0 => Nat.le_refl _
  | k + 1 => by
    rw [qWant_succ, ByteArray.size_append]
    have h1 := qWant_size vals bets k
    have h2 := text_size vals bets k
    omega
theorem ops_at {w : World} {N : Nat} (h : w.heap[N]? = some (.cells #[.string ⟨#[]⟩, .string ⟨#[45]⟩, .string ⟨#[58, 63]⟩, .string ⟨#[61]⟩] 9 (0, 0))) (k : Nat) : w.cell? ⟨N, k % 4, none⟩ = some (.string (qOp k)) := by
  have h4 : k % 4 < 4 := Nat.mod_lt _ (by decide)
  rw [blk_cell h]
  unfold qOp
  generalize k % 4 = m at h4 ⊢
  match m, h4 with
  | 0, _ => rfl
  | 1, _ => rfl
  | 2, _ => rfl
  | 3, _ => rfl
/-- The text so far, with what stands between. -/
def qMid (vals bets : List B) (k : Nat) : B := match bets[k]? with | none => qWant vals bets k | some t => qWant vals bets k ++ cutB t 40
theorem qWant_mid (vals bets : List B) (k : Nat) : qWant vals bets (k + 1) = qMid vals bets k ++ cutB (vals.getD k ⟨#[]⟩) 80 := by
  rw [qWant_succ]
  unfold qMid qIt Itm.text
  cases bets[k]? with
  | none =>
    show qWant vals bets k ++ ((⟨#[]⟩ : B) ++ _) = _
    rw [nil_app]
  | some t =>
    show qWant vals bets k ++ (cutB t 40 ++ _) = (qWant vals bets k ++ cutB t 40) ++ _
    rw [ByteArray.append_assoc]
theorem qOp_col {k : Nat} (h : qOp k = opCol) : k % 4 = 2 := by
  have h4 : k % 4 < 4 := Nat.mod_lt _ (by decide)
  unfold qOp opCol at h
  generalize k % 4 = m at h h4 ⊢
  match m, h4, h with
  | 0, _, h => exact absurd h (by decide)
  | 1, _, h => exact absurd h (by decide)
  | 2, _, _ => rfl
  | 3, _, h => exact absurd h (by decide)
/-- Each round's variable is found. -/
theorem items_ok (vals bets : List B) (n : Nat) (hn : n ≤ 8) : ∀ x ∈ qIts vals bets n, x.ok (itsL (qIts vals bets n)) := by
  intro x hx
  unfold qIts at hx
  obtain ⟨j, hj, rfl⟩ := List.mem_map.1 hx
  have hjn := List.mem_range.1 hj
  refine ⟨rfl, ?_, qOp_mem j, Nat.le_trans (cutB_size _ 80) (by decide)⟩
  have hat : ∀ i, i < n → (itsL (qIts vals bets n))[i]? = some (nameB i, cutB (vals.getD i ⟨#[]⟩) 80) := by
    intro i hi
    unfold itsL qIts
    rw [List.map_map, List.getElem?_map, List.getElem?_range hi]
    rfl
  refine look_at (fun i p hp => ?_) (by rw [itsL_len]; exact hn) (hat j hjn) _ (Nat.le_refl _) (by rw [itsL_len]; exact hjn)
  have hi : i < n := by
    have := (List.getElem?_eq_some_iff.1 hp).1
    rwa [itsL_len] at this
  rw [hat i hi] at hp
  cases hp
  rfl
/-- No round has been a wrong one. -/
def qFine (vals bets : List B) (k : Nat) : Prop := ∀ x ∈ qIts vals bets k, ¬ (x.op = opCol ∧ x.v = ⟨#[]⟩)

/-- Expand over the word and the variables. -/
theorem QIn.expand {w0 wr : World} {NB : Nat} {L : List (B × B)} {ps : List PartT} {lv wv : Value} {pcs : List PC} (h : QIn w0 wr NB L ps lv wv pcs) (hT : TabOk w0) {a : Ans} (hx : expandP 20 1 ps (qE L []) = some a) :
    ∃ A c, wv = .slice A ps.length c ∧ Calls Tryd.prog 9 #[.slice A ps.length c, .iface 28 (.pointer (some ⟨wr.heap.size, 0, none⟩))] (wr.alloc (.cells #[lv, .slice none 0 0, .int .i64 0, .slice none 0 0] 31)) fun en w' =>
      ∃ A1 n1 c1, en = .returned (.tuple #[.slice A1 n1 c1, .int .i64 a.2.1]) ∧ RowsAt (fun _ => True) w' A1 n1 a.1 ∧ Below w0.heap.size w0 w' := by
  obtain ⟨A, c, e, hc, hw⟩ := h.word
  have hTv : ¬ lv.ownBlock = some 0 := fun e => by
    have h1 := h.lvB _ e
    have h2 := tab_lt hT
    omega
  have hTr : TabOk wr := tab_below hT h.bel
  refine ⟨A, c, e, (Expand_walk 2 (fun q => q = wr.heap.size ∨ lv.ownBlock = some q) (fun q => Ty wr q 47) wr.heap.size (qE L []) ps a A ps.length c _ (h.env (below_a _ _) (Nat.le_refl _) (heap_alloc_new _ _) hTr hTv) (hw.below (below_a _ _)) hc (fun q hq => ?_) hx).mono ?_⟩
  · rintro (rfl | e2)
    · exact Nat.lt_irrefl _ hq.lt
    · exact hq.ne (own_ty h.hL e2) (by decide) rfl
  · rintro en w' ⟨A1, n1, c1, E', rfl, k2, _, _, k5, _⟩
    refine ⟨A1, n1, c1, rfl, k2.imp (fun _ _ => trivial), (h.bel.trans ((below_a wr _).mono h.bel.size)).trans (Mod.toBelow k5 (Nat.le_trans h.bel.size (by simp)) (fun i hi he => ?_))⟩
    rcases he with rfl | e2
    · have := h.bel.size; omega
    · have := h.lvB _ e2; omega
theorem foldt_size : ∀ (l : List Rn) (s : B), s.size ≤ (l.foldl (fun a r => a ++ r.t) s).size
  | [], _ => Nat.le_refl _
  | r :: l, s => by
    have h := foldt_size l (s ++ r.t)
    rw [List.foldl_cons]
    rw [ByteArray.size_append] at h
    omega
theorem good_q (vals bets : List B) (k : Nat) (hk : k ≤ 8) (hf : qFine vals bets k) : ∃ e', expandP 20 1 ((qIts vals bets k).flatMap Itm.parts) (qE (itsL (qIts vals bets k)) []) = some ([(qIts vals bets k).flatMap Itm.runs], 0, e') :=
  expand_items _ (fun x hx => ⟨items_ok vals bets k hk x hx, hf x hx⟩) (by rw [qIts_len]; omega)
theorem bad_q (vals bets : List B) (k : Nat) (hk : k < 8) (hf : qFine vals bets k) (h1 : k % 4 = 2) (h2 : cutB (vals.getD k ⟨#[]⟩) 80 = ⟨#[]⟩) : ∃ e', expandP 20 1 ((qIts vals bets (k + 1)).flatMap Itm.parts) (qE (itsL (qIts vals bets (k + 1))) []) = some ([], 2, e') := by
  have hok := items_ok vals bets (k + 1) hk
  have hmem : ∀ x ∈ qIts vals bets k, x ∈ qIts vals bets (k + 1) := fun x hx => by rw [qIts_succ]; exact List.mem_append_left _ hx
  have h := expand_bad (L := itsL (qIts vals bets (k + 1))) (qIts vals bets k) (qIt vals bets k) (fun x hx => ⟨hok x (hmem x hx), hf x hx⟩) (hok _ (by rw [qIts_succ]; exact List.mem_append_right _ (List.mem_singleton.2 rfl))) ⟨by show qOp k = opCol; unfold qOp; rw [h1]; rfl, h2⟩ (by rw [qIts_len]; omega)
  rw [← qIts_succ] at h
  exact h

attribute [local go_sem] conv_name
set_option maxHeartbeats 12800000 in
set_option maxRecDepth 100000 in
theorem quoted_try (vals bets : List B) (A0 A1 : Option Addr) (c0 c1 : Nat) (w : World) (hT : TabOk w) (hv : Kd.string.C w A0 vals.length vals) (hb : Kd.string.C w A1 bets.length bets) :
    Calls Tryd.prog 4 #[.slice A0 vals.length c0, .slice A1 bets.length c1] w fun en w' => en = .returned (.bool true) ∧ Below w.heap.size w w' := by
  have HT := Lib.hid hT
  have HI := Lib.hid (And.intro hv hb)
  have hvm := hv.2.1
  have hbm := hb.2.1
  clear hT hv hb
  go_enter Tryd.func4, Tryd.ntmps4
  go_wp2
  go_loopw [8, 5, 7] (fun i wvv s wr => ∃ (k : Nat) (lv : Value) (pcs : List PC), k ≤ vals.length ∧ k ≤ 8 ∧ i = .int .i64 k ∧ s = .string (qWant vals bets k) ∧ Hid (QIn w wr w.heap.size (itsL (qIts vals bets k)) ((qIts vals bets k).flatMap Itm.parts) lv wvv pcs) ∧ Hid (qFine vals bets k)) (fun i _ _ _ => 8 - (intOf i).toNat)
  case atStart =>
    refine ⟨0, .slice none 0 0, [], Nat.zero_le _, Nat.zero_le _, rfl, rfl, Lib.hid ?_, Lib.hid (fun x hx => by cases hx)⟩
    exact {
      hL := Kd.R_nil _ _ _ _ _
      hW := Kd.R_nil _ _ _ _ _
      len := rfl
      parts := fun j p pc h => by cases h
      box := heap_alloc_new _ _
      nb := Nat.le_refl _
      bel := below_a _ _
      lvB := fun b hb => by simp [Value.ownBlock] at hb
      wvB := fun b hb => by simp [Value.ownBlock] at hb }
  case round =>
    obtain ⟨k, lv, pcs, hkv, hk8, rfl, rfl, HQ, HF⟩ := hrel
    by_cases hlt : k < vals.length ∧ k < 8
    · have a1 : (k : Int) < (vals.length : Int) := by omega
      have a2 : (k : Int) < 8 := by omega
      have hk80 : k < 8 := hlt.2
      obtain ⟨s0, hs0⟩ : ∃ s0, vals[k]? = some s0 := ⟨_, List.getElem?_eq_getElem hlt.1⟩
      obtain ⟨adV, rfl, xv⟩ := str_at HI.out.1 hs0
      have m0 : (0 : Int) ≤ min (s0.size : Int) 80 := by omega
      have m1 : min (s0.size : Int) 80 ≤ (s0.size : Int) := by omega
      have u1 : IntKind.u8.wrap (k : Int) = (k : Int) := by simp [IntKind.wrap, IntKind.bits, IntKind.signed]; omega
      have u2 : IntKind.u8.wrap (97 + (k : Int)) = 97 + (k : Int) := by simp [IntKind.wrap, IntKind.bits, IntKind.signed]; omega
      go_upto_region 8 with fail
      generalize hE : World.alloc _ _ = w8
      have HB8 := Lib.hid (show Below wr.heap.size wr w8.drew from (hE ▸ below_a wr _ : Below wr.heap.size wr w8).drew)
      have HQ8 := Lib.hid (HQ.out.below HB8.out)
      clear hE HQ HB8
      have b8 : w8.drew.cell? ⟨w.heap.size, 0, none⟩ = some lv := (blk_cell HQ8.out.box 0).trans rfl
      have x8 := pw_cell_below HQ8.out.bel xv
      have hlen : (itsL (qIts vals bets k)).length < big := by rw [itsL_len]; unfold big; omega
      -- REGION 8 (printed by wip/gen-quoted.py)
      refine start_ (n := 19) (S := fun w' => w'.cell? ⟨w.heap.size, 0, none⟩ = some lv ∧ w'.cell? (adV.add k) = some (.string s0)) (ds := [18]) #[false, false, false, false, false, false, false, false, false, false, false, false, false, false, false, false, false, false, false] (by kernel_rfl) rfl rfl ⟨b8, x8⟩ (fun hHeld => ?_)
      refine pure_ (i := 0) (N := some 32) (v := ?_) (a' := ?_) #[true, false, false, false, false, false, false, false, false, false, false, false, false, false, false, false, false, false, false] rfl rfl (by kernel_rfl) (fun _ _ _ h => h) (Or.inl ⟨by rfl, ?_⟩) ?_ ?_
      rotate_left
      · intro w'
        go_simp
        with_reducible rfl
      rotate_left
      · simp only [Act.put, List.setIfInBounds_toArray, List.set_cons_zero, List.set_cons_succ, i64_w, i32_w]
        rfl
      refine pure_ (i := 2) (N := some 34) (v := ?_) (a' := ?_) #[true, false, true, false, false, false, false, false, false, false, false, false, false, false, false, false, false, false, false] rfl rfl (by kernel_rfl) (fun _ _ _ h => h) (Or.inl ⟨by rfl, ?_⟩) ?_ ?_
      rotate_left
      · intro w'
        go_simp
        with_reducible rfl
      rotate_left
      · simp only [Act.put, List.setIfInBounds_toArray, List.set_cons_zero, List.set_cons_succ, i64_w, i32_w]
        rfl
      refine pure_ (i := 3) (N := some 35) (v := ?_) (a' := ?_) #[true, false, true, true, false, false, false, false, false, false, false, false, false, false, false, false, false, false, false] rfl rfl (by kernel_rfl) (fun _ _ _ h => h) (Or.inl ⟨by rfl, ?_⟩) ?_ ?_
      rotate_left
      · intro w'
        go_simp
        with_reducible rfl
      rotate_left
      · simp only [Act.put, List.setIfInBounds_toArray, List.set_cons_zero, List.set_cons_succ, i64_w, i32_w]
        rfl
      refine pure_ (i := 4) (N := some 36) (v := ?_) (a' := ?_) #[true, false, true, true, true, false, false, false, false, false, false, false, false, false, false, false, false, false, false] rfl rfl (by kernel_rfl) (fun _ _ _ h => h) (Or.inl ⟨by rfl, ?_⟩) ?_ ?_
      rotate_left
      · intro w'
        go_simp
        with_reducible rfl
      rotate_left
      · simp only [Act.put, List.setIfInBounds_toArray, List.set_cons_zero, List.set_cons_succ, i64_w, i32_w]
        rfl
      refine pure_ (i := 5) (N := some 37) (v := ?_) (a' := ?_) #[true, false, true, true, true, true, false, false, false, false, false, false, false, false, false, false, false, false, false] rfl rfl (by kernel_rfl) (fun _ _ _ h => h) (Or.inl ⟨by rfl, ?_⟩) ?_ ?_
      rotate_left
      · intro w'
        go_simp
        with_reducible rfl
      rotate_left
      · simp only [Act.put, List.setIfInBounds_toArray, List.set_cons_zero, List.set_cons_succ, i64_w, i32_w]
        rfl
      refine pure_ (i := 7) (N := some 39) (v := ?_) (a' := ?_) #[true, false, true, true, true, true, false, true, false, false, false, false, false, false, false, false, false, false, false] rfl rfl (by kernel_rfl) (fun _ _ _ h => h) (Or.inl ⟨by rfl, ?_⟩) ?_ ?_
      rotate_left
      · intro w'
        go_simp
        with_reducible rfl
      rotate_left
      · simp only [Act.put, List.setIfInBounds_toArray, List.set_cons_zero, List.set_cons_succ, i64_w, i32_w]
        rfl
      refine pure_ (i := 8) (N := some 40) (v := ?_) (a' := ?_) #[true, false, true, true, true, true, false, true, true, false, false, false, false, false, false, false, false, false, false] rfl rfl (by kernel_rfl) (fun _ _ _ h => h) (Or.inl ⟨by rfl, ?_⟩) ?_ ?_
      rotate_left
      · intro w'
        go_simp
        with_reducible rfl
      rotate_left
      · simp only [Act.put, List.setIfInBounds_toArray, List.set_cons_zero, List.set_cons_succ, i64_w, i32_w]
        rfl
      refine pure_ (i := 9) (N := some 41) (v := ?_) (a' := ?_) #[true, false, true, true, true, true, false, true, true, true, false, false, false, false, false, false, false, false, false] rfl rfl (by kernel_rfl) (fun _ _ _ h => h) (Or.inl ⟨by rfl, ?_⟩) ?_ ?_
      rotate_left
      · intro w'
        go_simp
        with_reducible rfl
      rotate_left
      · simp only [Act.put, List.setIfInBounds_toArray, List.set_cons_zero, List.set_cons_succ, i64_w, i32_w]
        rfl
      refine take_ (i := 1) (N := some 33) (v := ?_) (a' := ?_) #[true, true, true, true, true, true, false, true, true, true, false, false, false, false, false, false, false, false, false] rfl rfl (by kernel_rfl) (fun _ _ _ h => h) (Or.inl ⟨by rfl, ?_⟩) hHeld ?_ ?_
      rotate_left
      · rintro w' ⟨s0, s1⟩
        go_simp
        with_reducible rfl
      rotate_left
      · simp only [Act.put, List.setIfInBounds_toArray, List.set_cons_zero, List.set_cons_succ, i64_w, i32_w]
        rfl
      refine take_ (i := 6) (N := some 38) (v := ?_) (a' := ?_) #[true, true, true, true, true, true, true, true, true, true, false, false, false, false, false, false, false, false, false] rfl rfl (by kernel_rfl) (fun _ _ _ h => h) (Or.inl ⟨by rfl, ?_⟩) hHeld ?_ ?_
      rotate_left
      · rintro w' ⟨s0, s1⟩
        go_simp
        with_reducible rfl
      rotate_left
      · simp only [Act.put, List.setIfInBounds_toArray, List.set_cons_zero, List.set_cons_succ, i64_w, i32_w]
        rfl
      refine take_ (i := 10) (N := some 42) (v := ?_) (a' := ?_) #[true, true, true, true, true, true, true, true, true, true, true, false, false, false, false, false, false, false, false] rfl rfl (by kernel_rfl) (fun _ _ _ h => h) (Or.inl ⟨by rfl, ?_⟩) hHeld ?_ ?_
      rotate_left
      · rintro w' ⟨s0, s1⟩
        go_simp
        with_reducible rfl
      rotate_left
      · simp only [Act.put, List.setIfInBounds_toArray, List.set_cons_zero, List.set_cons_succ, i64_w, i32_w]
        rfl
      refine pure_ (i := 11) (N := some 43) (v := ?_) (a' := ?_) #[true, true, true, true, true, true, true, true, true, true, true, true, false, false, false, false, false, false, false] rfl rfl (by kernel_rfl) (fun _ _ _ h => h) (Or.inl ⟨by rfl, ?_⟩) ?_ ?_
      rotate_left
      · intro w'
        go_simp
        with_reducible rfl
      rotate_left
      · simp only [Act.put, List.setIfInBounds_toArray, List.set_cons_zero, List.set_cons_succ, i64_w, i32_w]
        rfl
      refine pure_ (i := 12) (N := some 44) (v := ?_) (a' := ?_) #[true, true, true, true, true, true, true, true, true, true, true, true, true, false, false, false, false, false, false] rfl rfl (by kernel_rfl) (fun _ _ _ h => h) (Or.inl ⟨by rfl, ?_⟩) ?_ ?_
      rotate_left
      · intro w'
        go_simp
        with_reducible rfl
      rotate_left
      · simp only [Act.put, List.setIfInBounds_toArray, List.set_cons_zero, List.set_cons_succ, i64_w, i32_w]
        rfl
      refine pure_ (i := 13) (N := some 45) (v := ?_) (a' := ?_) #[true, true, true, true, true, true, true, true, true, true, true, true, true, true, false, false, false, false, false] rfl rfl (by kernel_rfl) (fun _ _ _ h => h) (Or.inl ⟨by rfl, ?_⟩) ?_ ?_
      rotate_left
      · intro w'
        go_simp
        with_reducible rfl
      rotate_left
      · simp only [Act.put, List.setIfInBounds_toArray, List.set_cons_zero, List.set_cons_succ, i64_w, i32_w]
        rfl
      refine pure_ (i := 14) (N := some 46) (v := ?_) (a' := ?_) #[true, true, true, true, true, true, true, true, true, true, true, true, true, true, true, false, false, false, false] rfl rfl (by kernel_rfl) (fun _ _ _ h => h) (Or.inl ⟨by rfl, ?_⟩) ?_ ?_
      rotate_left
      · intro w'
        go_simp
        with_reducible rfl
      rotate_left
      · simp only [Act.put, List.setIfInBounds_toArray, List.set_cons_zero, List.set_cons_succ, i64_w, i32_w]
        rfl
      refine one_ (i := 15) (N := some 47) #[true, true, true, true, true, true, true, true, true, true, true, true, true, true, true, true, false, false, false] rfl rfl (by kernel_rfl) (by decide) (fun K hK => ?_)
      refine value_ (w1 := ?_) (v := ?_) (by rfl) rfl ?_ ?_
      rotate_left 2
      · go_simp
        constructor
        · rfl
        · rfl
      refine hK.out _ _ ⟨(keep_alloc _ hHeld.1), (keep_alloc _ hHeld.2)⟩ (fun hHeld => ?_)
      clear hK K
      refine norm_ (a' := ?_) ?_ ?_
      rotate_left
      · show Act.put _ (some 47) _ = _
        simp only [Act.put, List.setIfInBounds_toArray, List.set_cons_zero, List.set_cons_succ, i64_w, i32_w]
        rfl
      refine one_ (i := 16) (N := some 48) #[true, true, true, true, true, true, true, true, true, true, true, true, true, true, true, true, true, false, false] rfl rfl (by kernel_rfl) (by decide) (fun K hK => ?_)
      refine ap_var_st (by rfl) (.tmp 33) (.tmp 47) rfl lv (itsL (qIts vals bets k)) (nameB k, cutB s0 80) rfl rfl (by simp) HQ8.out.hL hlen ?_
      intro A2 n2 c2 w2 hvr hg hat
      obtain ⟨e0, f0, g0⟩ := QIn.grown_cells HQ8.out hg
      refine hK.out _ _ ⟨e0, (g0 _ _ xv)⟩ (fun hHeld => ?_)
      clear hK K
      refine norm_ (a' := ?_) ?_ ?_
      rotate_left
      · show Act.put _ (some 48) _ = _
        simp only [Act.put, List.setIfInBounds_toArray, List.set_cons_zero, List.set_cons_succ, i64_w, i32_w]
        rfl
      refine pure_ (i := 17) (N := some 49) (v := ?_) (a' := ?_) #[true, true, true, true, true, true, true, true, true, true, true, true, true, true, true, true, true, true, false] rfl rfl (by kernel_rfl) (fun _ _ _ h => h) (Or.inl ⟨by rfl, ?_⟩) ?_ ?_
      rotate_left
      · intro w'
        go_simp
        with_reducible rfl
      rotate_left
      · simp only [Act.put, List.setIfInBounds_toArray, List.set_cons_zero, List.set_cons_succ, i64_w, i32_w]
        rfl
      refine last_ (i := 18) (N := none) #[true, true, true, true, true, true, true, true, true, true, true, true, true, true, true, true, true, true, true] rfl rfl (by kernel_rfl) (by decide) (fun K hK => ?_)
      refine skip_ (w1 := ?_) (by rfl) rfl ?_ ?_
      rotate_left
      · go_simp
        rfl
      refine hK.out _ _ ?_
      clear hK K
      refine done_ (by kernel_rfl) ?_
      -- END OF REGION 8
      have HQ9 : Hid (QIn w (w2.setCell ⟨w.heap.size, 0, none⟩ (.slice A2 n2 c2)) w.heap.size (itsL (qIts vals bets (k + 1))) ((qIts vals bets k).flatMap Itm.parts) (.slice A2 n2 c2) u5 pcs) := Lib.hid (by
        have h := QIn.var HQ8.out hvr hg hat
        rw [itsL_succ, show vals.getD k ⟨#[]⟩ = s0 from by rw [List.getD_eq_getElem?_getD, hs0]; rfl]
        exact h)
      clear HQ8 hvr hg hat b8 x8 e0 f0 g0
      generalize w2.setCell ⟨w.heap.size, 0, none⟩ (.slice A2 n2 c2) = w9 at HQ9 ⊢
      have hws := qWant_size vals bets k
      have hpl : pcs.length < big := by
        have h1 := HQ9.out.len
        have h2 := parts_len (qIts vals bets k)
        rw [qIts_len] at h2
        unfold big
        omega
      clear hlen xv m0 m1 u1 u2
      go_upto_if 53 with fail
      go_cut [5, 7] (fun s5 s7 wx => ∃ pcs2 : List PC, s7 = .string (qMid vals bets k) ∧ Hid (QIn w wx w.heap.size (itsL (qIts vals bets (k + 1))) ((qIts vals bets k).flatMap Itm.parts ++ (qIt vals bets k).quo) (.slice A2 n2 c2) s5 pcs2))
      case first =>
        by_cases hbl : k < bets.length
        · have a3 : (k : Int) < (bets.length : Int) := by omega
          obtain ⟨t0, ht0⟩ : ∃ t0, bets[k]? = some t0 := ⟨_, List.getElem?_eq_getElem hbl⟩
          obtain ⟨adB, rfl, xb⟩ := str_at HI.out.2 ht0
          have m0 : (0 : Int) ≤ min (t0.size : Int) 40 := by omega
          have m1 : min (t0.size : Int) 40 ≤ (t0.size : Int) := by omega
          have b1 : (9223372036854775807 < (qWant vals bets k).size + (min (t0.size : Int) 40).toNat) = False := eq_false (by omega)
          have x9 : w9.drew.cell? (adB.add k) = some (.string t0) := pw_cell_below HQ9.out.bel xb
          go_upto_region 10 with fail
          -- REGION 10 (printed by wip/gen-quoted.py)
          refine start_ (n := 16) (S := fun w' => w'.cell? (adB.add k) = some (.string t0)) (ds := []) #[false, false, false, false, false, false, false, false, false, false, false, false, false, false, false, false] (by kernel_rfl) rfl rfl (x9) (fun hHeld => ?_)
          refine pure_ (i := 0) (N := some 54) (v := ?_) (a' := ?_) #[true, false, false, false, false, false, false, false, false, false, false, false, false, false, false, false] rfl rfl (by kernel_rfl) (fun _ _ _ h => h) (Or.inl ⟨by rfl, ?_⟩) ?_ ?_
          rotate_left
          · intro w'
            go_simp
            with_reducible rfl
          rotate_left
          · simp only [Act.put, List.setIfInBounds_toArray, List.set_cons_zero, List.set_cons_succ, i64_w, i32_w]
            rfl
          refine pure_ (i := 1) (N := some 55) (v := ?_) (a' := ?_) #[true, true, false, false, false, false, false, false, false, false, false, false, false, false, false, false] rfl rfl (by kernel_rfl) (fun _ _ _ h => h) (Or.inl ⟨by rfl, ?_⟩) ?_ ?_
          rotate_left
          · intro w'
            go_simp
            with_reducible rfl
          rotate_left
          · simp only [Act.put, List.setIfInBounds_toArray, List.set_cons_zero, List.set_cons_succ, i64_w, i32_w]
            rfl
          refine pure_ (i := 2) (N := some 56) (v := ?_) (a' := ?_) #[true, true, true, false, false, false, false, false, false, false, false, false, false, false, false, false] rfl rfl (by kernel_rfl) (fun _ _ _ h => h) (Or.inl ⟨by rfl, ?_⟩) ?_ ?_
          rotate_left
          · intro w'
            go_simp
            with_reducible rfl
          rotate_left
          · simp only [Act.put, List.setIfInBounds_toArray, List.set_cons_zero, List.set_cons_succ, i64_w, i32_w]
            rfl
          refine pure_ (i := 3) (N := some 57) (v := ?_) (a' := ?_) #[true, true, true, true, false, false, false, false, false, false, false, false, false, false, false, false] rfl rfl (by kernel_rfl) (fun _ _ _ h => h) (Or.inl ⟨by rfl, ?_⟩) ?_ ?_
          rotate_left
          · intro w'
            go_simp
            with_reducible rfl
          rotate_left
          · simp only [Act.put, List.setIfInBounds_toArray, List.set_cons_zero, List.set_cons_succ, i64_w, i32_w]
            rfl
          refine pure_ (i := 5) (N := some 59) (v := ?_) (a' := ?_) #[true, true, true, true, false, true, false, false, false, false, false, false, false, false, false, false] rfl rfl (by kernel_rfl) (fun _ _ _ h => h) (Or.inl ⟨by rfl, ?_⟩) ?_ ?_
          rotate_left
          · intro w'
            go_simp
            with_reducible rfl
          rotate_left
          · simp only [Act.put, List.setIfInBounds_toArray, List.set_cons_zero, List.set_cons_succ, i64_w, i32_w]
            rfl
          refine pure_ (i := 6) (N := some 60) (v := ?_) (a' := ?_) #[true, true, true, true, false, true, true, false, false, false, false, false, false, false, false, false] rfl rfl (by kernel_rfl) (fun _ _ _ h => h) (Or.inl ⟨by rfl, ?_⟩) ?_ ?_
          rotate_left
          · intro w'
            go_simp
            with_reducible rfl
          rotate_left
          · simp only [Act.put, List.setIfInBounds_toArray, List.set_cons_zero, List.set_cons_succ, i64_w, i32_w]
            rfl
          refine pure_ (i := 7) (N := some 61) (v := ?_) (a' := ?_) #[true, true, true, true, false, true, true, true, false, false, false, false, false, false, false, false] rfl rfl (by kernel_rfl) (fun _ _ _ h => h) (Or.inl ⟨by rfl, ?_⟩) ?_ ?_
          rotate_left
          · intro w'
            go_simp
            with_reducible rfl
          rotate_left
          · simp only [Act.put, List.setIfInBounds_toArray, List.set_cons_zero, List.set_cons_succ, i64_w, i32_w]
            rfl
          refine take_ (i := 4) (N := some 58) (v := ?_) (a' := ?_) #[true, true, true, true, true, true, true, true, false, false, false, false, false, false, false, false] rfl rfl (by kernel_rfl) (fun _ _ _ h => h) (Or.inl ⟨by rfl, ?_⟩) hHeld ?_ ?_
          rotate_left
          · intro w' s0
            go_simp
            with_reducible rfl
          rotate_left
          · simp only [Act.put, List.setIfInBounds_toArray, List.set_cons_zero, List.set_cons_succ, i64_w, i32_w]
            rfl
          refine take_ (i := 8) (N := some 62) (v := ?_) (a' := ?_) #[true, true, true, true, true, true, true, true, true, false, false, false, false, false, false, false] rfl rfl (by kernel_rfl) (fun _ _ _ h => h) (Or.inl ⟨by rfl, ?_⟩) hHeld ?_ ?_
          rotate_left
          · intro w' s0
            go_simp
            with_reducible rfl
          rotate_left
          · simp only [Act.put, List.setIfInBounds_toArray, List.set_cons_zero, List.set_cons_succ, i64_w, i32_w]
            rfl
          refine pure_ (i := 9) (N := some 63) (v := ?_) (a' := ?_) #[true, true, true, true, true, true, true, true, true, true, false, false, false, false, false, false] rfl rfl (by kernel_rfl) (fun _ _ _ h => h) (Or.inl ⟨by rfl, ?_⟩) ?_ ?_
          rotate_left
          · intro w'
            go_simp
            with_reducible rfl
          rotate_left
          · simp only [Act.put, List.setIfInBounds_toArray, List.set_cons_zero, List.set_cons_succ, i64_w, i32_w]
            rfl
          refine pure_ (i := 10) (N := some 64) (v := ?_) (a' := ?_) #[true, true, true, true, true, true, true, true, true, true, true, false, false, false, false, false] rfl rfl (by kernel_rfl) (fun _ _ _ h => h) (Or.inl ⟨by rfl, ?_⟩) ?_ ?_
          rotate_left
          · intro w'
            go_simp
            with_reducible rfl
          rotate_left
          · simp only [Act.put, List.setIfInBounds_toArray, List.set_cons_zero, List.set_cons_succ, i64_w, i32_w]
            rfl
          refine pure_ (i := 11) (N := some 65) (v := ?_) (a' := ?_) #[true, true, true, true, true, true, true, true, true, true, true, true, false, false, false, false] rfl rfl (by kernel_rfl) (fun _ _ _ h => h) (Or.inl ⟨by rfl, ?_⟩) ?_ ?_
          rotate_left
          · intro w'
            go_simp
            with_reducible rfl
          rotate_left
          · simp only [Act.put, List.setIfInBounds_toArray, List.set_cons_zero, List.set_cons_succ, i64_w, i32_w]
            rfl
          refine one_ (i := 12) (N := some 66) #[true, true, true, true, true, true, true, true, true, true, true, true, true, false, false, false] rfl rfl (by kernel_rfl) (by decide) (fun K hK => ?_)
          refine goes_ Tryd.func12 (by kernel_rfl) rfl #[.string (cutB t0 40)] (by rfl) rfl rfl (by simp only [List.map_toArray, List.map_cons, List.map_nil]; rfl) ?_
          with_reducible refine (quo_w (cutB t0 40) w9.drew).mono ?_
          rintro en w3 ⟨rfl, hb⟩
          refine ⟨_, rfl, ?_⟩
          have HQ10 := Lib.hid (HQ9.out.below ((drew_0 w9).trans hb))
          refine hK.out _ _ ((pw_cell_below hb hHeld)) (fun hHeld => ?_)
          clear hK K
          refine norm_ (a' := ?_) ?_ ?_
          rotate_left
          · show Act.put _ (some 66) _ = _
            simp only [Act.put, List.setIfInBounds_toArray, List.set_cons_zero, List.set_cons_succ, i64_w, i32_w]
            rfl
          refine one_ (i := 13) (N := some 67) #[true, true, true, true, true, true, true, true, true, true, true, true, true, true, false, false] rfl rfl (by kernel_rfl) (by decide) (fun K hK => ?_)
          refine value_ (w1 := ?_) (v := ?_) (by rfl) rfl ?_ ?_
          rotate_left 2
          · go_simp
            constructor
            · rfl
            · rfl
          refine hK.out _ _ ((keep_alloc _ hHeld)) (fun hHeld => ?_)
          clear hK K
          refine norm_ (a' := ?_) ?_ ?_
          rotate_left
          · show Act.put _ (some 67) _ = _
            simp only [Act.put, List.setIfInBounds_toArray, List.set_cons_zero, List.set_cons_succ, i64_w, i32_w]
            rfl
          refine one_ (i := 14) (N := some 68) #[true, true, true, true, true, true, true, true, true, true, true, true, true, true, true, false] rfl rfl (by kernel_rfl) (by decide) (fun K hK => ?_)
          refine ap_pt_st (by rfl) (.tmp 54) (.tmp 67) rfl u5 pcs ((1, cutB t0 40, ⟨#[]⟩, true, (none, 0, 0), none) : PC) rfl rfl (by simp) HQ10.out.hW hpl ?_
          intro A3 n3 c3 w4 hvr2 hg2 hat2
          refine hK.out _ _ ((QIn.grown_word HQ10.out hg2 _ _ xb)) (fun hHeld => ?_)
          clear hK K
          refine norm_ (a' := ?_) ?_ ?_
          rotate_left
          · show Act.put _ (some 68) _ = _
            simp only [Act.put, List.setIfInBounds_toArray, List.set_cons_zero, List.set_cons_succ, i64_w, i32_w]
            rfl
          refine pure_ (i := 15) (N := some 5) (v := ?_) (a' := ?_) #[true, true, true, true, true, true, true, true, true, true, true, true, true, true, true, true] rfl rfl (by kernel_rfl) (fun _ _ _ h => h) (Or.inl ⟨by rfl, ?_⟩) ?_ ?_
          rotate_left
          · intro w'
            go_simp
            with_reducible rfl
          rotate_left
          · simp only [Act.put, List.setIfInBounds_toArray, List.set_cons_zero, List.set_cons_succ, i64_w, i32_w]
            rfl
          refine done_ (by kernel_rfl) ?_
          -- END OF REGION 10
          have HQ11 : Hid (QIn w w4 w.heap.size (itsL (qIts vals bets (k + 1))) ((qIts vals bets k).flatMap Itm.parts ++ [leaf 1 (cutB t0 40) ⟨#[]⟩ true]) (.slice A2 n2 c2) (.slice A3 n3 c3) (pcs ++ [((1, cutB t0 40, ⟨#[]⟩, true, (none, 0, 0), none) : PC)])) := Lib.hid (QIn.part HQ10.out (leaf_at 1 _ _ _ _ _ _) hvr2 hg2 hat2)
          have x11 : w4.drew.cell? (adB.add k) = some (.string t0) := QIn.grown_word HQ10.out hg2 _ _ xb
          clear HQ10 hvr2 hg2 hat2 x9
          go_upto_region 11 with fail
          -- REGION 11 (printed by wip/gen-quoted.py)
          refine start_ (n := 14) (S := fun w' => w'.cell? (adB.add k) = some (.string t0)) (ds := []) #[false, false, false, false, false, false, false, false, false, false, false, false, false, false] (by kernel_rfl) rfl rfl (x11) (fun hHeld => ?_)
          refine pure_ (i := 0) (N := some 69) (v := ?_) (a' := ?_) #[true, false, false, false, false, false, false, false, false, false, false, false, false, false] rfl rfl (by kernel_rfl) (fun _ _ _ h => h) (Or.inl ⟨by rfl, ?_⟩) ?_ ?_
          rotate_left
          · intro w'
            go_simp
            with_reducible rfl
          rotate_left
          · simp only [Act.put, List.setIfInBounds_toArray, List.set_cons_zero, List.set_cons_succ, i64_w, i32_w]
            rfl
          refine pure_ (i := 1) (N := some 70) (v := ?_) (a' := ?_) #[true, true, false, false, false, false, false, false, false, false, false, false, false, false] rfl rfl (by kernel_rfl) (fun _ _ _ h => h) (Or.inl ⟨by rfl, ?_⟩) ?_ ?_
          rotate_left
          · intro w'
            go_simp
            with_reducible rfl
          rotate_left
          · simp only [Act.put, List.setIfInBounds_toArray, List.set_cons_zero, List.set_cons_succ, i64_w, i32_w]
            rfl
          refine pure_ (i := 2) (N := some 71) (v := ?_) (a' := ?_) #[true, true, true, false, false, false, false, false, false, false, false, false, false, false] rfl rfl (by kernel_rfl) (fun _ _ _ h => h) (Or.inl ⟨by rfl, ?_⟩) ?_ ?_
          rotate_left
          · intro w'
            go_simp
            with_reducible rfl
          rotate_left
          · simp only [Act.put, List.setIfInBounds_toArray, List.set_cons_zero, List.set_cons_succ, i64_w, i32_w]
            rfl
          refine pure_ (i := 3) (N := some 72) (v := ?_) (a' := ?_) #[true, true, true, true, false, false, false, false, false, false, false, false, false, false] rfl rfl (by kernel_rfl) (fun _ _ _ h => h) (Or.inl ⟨by rfl, ?_⟩) ?_ ?_
          rotate_left
          · intro w'
            go_simp
            with_reducible rfl
          rotate_left
          · simp only [Act.put, List.setIfInBounds_toArray, List.set_cons_zero, List.set_cons_succ, i64_w, i32_w]
            rfl
          refine pure_ (i := 5) (N := some 74) (v := ?_) (a' := ?_) #[true, true, true, true, false, true, false, false, false, false, false, false, false, false] rfl rfl (by kernel_rfl) (fun _ _ _ h => h) (Or.inl ⟨by rfl, ?_⟩) ?_ ?_
          rotate_left
          · intro w'
            go_simp
            with_reducible rfl
          rotate_left
          · simp only [Act.put, List.setIfInBounds_toArray, List.set_cons_zero, List.set_cons_succ, i64_w, i32_w]
            rfl
          refine pure_ (i := 6) (N := some 75) (v := ?_) (a' := ?_) #[true, true, true, true, false, true, true, false, false, false, false, false, false, false] rfl rfl (by kernel_rfl) (fun _ _ _ h => h) (Or.inl ⟨by rfl, ?_⟩) ?_ ?_
          rotate_left
          · intro w'
            go_simp
            with_reducible rfl
          rotate_left
          · simp only [Act.put, List.setIfInBounds_toArray, List.set_cons_zero, List.set_cons_succ, i64_w, i32_w]
            rfl
          refine pure_ (i := 7) (N := some 76) (v := ?_) (a' := ?_) #[true, true, true, true, false, true, true, true, false, false, false, false, false, false] rfl rfl (by kernel_rfl) (fun _ _ _ h => h) (Or.inl ⟨by rfl, ?_⟩) ?_ ?_
          rotate_left
          · intro w'
            go_simp
            with_reducible rfl
          rotate_left
          · simp only [Act.put, List.setIfInBounds_toArray, List.set_cons_zero, List.set_cons_succ, i64_w, i32_w]
            rfl
          refine take_ (i := 4) (N := some 73) (v := ?_) (a' := ?_) #[true, true, true, true, true, true, true, true, false, false, false, false, false, false] rfl rfl (by kernel_rfl) (fun _ _ _ h => h) (Or.inl ⟨by rfl, ?_⟩) hHeld ?_ ?_
          rotate_left
          · intro w' s0
            go_simp
            with_reducible rfl
          rotate_left
          · simp only [Act.put, List.setIfInBounds_toArray, List.set_cons_zero, List.set_cons_succ, i64_w, i32_w]
            rfl
          refine take_ (i := 8) (N := some 77) (v := ?_) (a' := ?_) #[true, true, true, true, true, true, true, true, true, false, false, false, false, false] rfl rfl (by kernel_rfl) (fun _ _ _ h => h) (Or.inl ⟨by rfl, ?_⟩) hHeld ?_ ?_
          rotate_left
          · intro w' s0
            go_simp
            with_reducible rfl
          rotate_left
          · simp only [Act.put, List.setIfInBounds_toArray, List.set_cons_zero, List.set_cons_succ, i64_w, i32_w]
            rfl
          refine pure_ (i := 9) (N := some 78) (v := ?_) (a' := ?_) #[true, true, true, true, true, true, true, true, true, true, false, false, false, false] rfl rfl (by kernel_rfl) (fun _ _ _ h => h) (Or.inl ⟨by rfl, ?_⟩) ?_ ?_
          rotate_left
          · intro w'
            go_simp
            with_reducible rfl
          rotate_left
          · simp only [Act.put, List.setIfInBounds_toArray, List.set_cons_zero, List.set_cons_succ, i64_w, i32_w]
            rfl
          refine pure_ (i := 10) (N := some 79) (v := ?_) (a' := ?_) #[true, true, true, true, true, true, true, true, true, true, true, false, false, false] rfl rfl (by kernel_rfl) (fun _ _ _ h => h) (Or.inl ⟨by rfl, ?_⟩) ?_ ?_
          rotate_left
          · intro w'
            go_simp
            with_reducible rfl
          rotate_left
          · simp only [Act.put, List.setIfInBounds_toArray, List.set_cons_zero, List.set_cons_succ, i64_w, i32_w]
            rfl
          refine pure_ (i := 11) (N := some 80) (v := ?_) (a' := ?_) #[true, true, true, true, true, true, true, true, true, true, true, true, false, false] rfl rfl (by kernel_rfl) (fun _ _ _ h => h) (Or.inl ⟨by rfl, ?_⟩) ?_ ?_
          rotate_left
          · intro w'
            go_simp
            with_reducible rfl
          rotate_left
          · simp only [Act.put, List.setIfInBounds_toArray, List.set_cons_zero, List.set_cons_succ, i64_w, i32_w]
            rfl
          refine pure_ (i := 12) (N := some 81) (v := ?_) (a' := ?_) #[true, true, true, true, true, true, true, true, true, true, true, true, true, false] rfl rfl (by kernel_rfl) (fun _ _ _ h => h) (Or.inl ⟨by rfl, ?_⟩) ?_ ?_
          rotate_left
          · intro w'
            go_simp
            with_reducible rfl
          rotate_left
          · simp only [Act.put, List.setIfInBounds_toArray, List.set_cons_zero, List.set_cons_succ, i64_w, i32_w]
            rfl
          refine pure_ (i := 13) (N := some 7) (v := ?_) (a' := ?_) #[true, true, true, true, true, true, true, true, true, true, true, true, true, true] rfl rfl (by kernel_rfl) (fun _ _ _ h => h) (Or.inl ⟨by rfl, ?_⟩) ?_ ?_
          rotate_left
          · intro w'
            go_simp
            with_reducible rfl
          rotate_left
          · simp only [Act.put, List.setIfInBounds_toArray, List.set_cons_zero, List.set_cons_succ, i64_w, i32_w]
            rfl
          refine done_ (by kernel_rfl) ?_
          -- END OF REGION 11
          go_wp2
          go_meet
          case rel =>
            have e : (qIt vals bets k).quo = [leaf 1 (cutB t0 40) ⟨#[]⟩ true] := by unfold qIt Itm.quo; rw [ht0]; rfl
            exact ⟨pcs ++ [((1, cutB t0 40, ⟨#[]⟩, true, (none, 0, 0), none) : PC)], by unfold qMid; rw [ht0]; rfl, Lib.hid (by rw [e]; exact HQ11.out.below (drew_0 w4))⟩
        · have a3 : ¬ (k : Int) < (bets.length : Int) := by omega
          have hn : bets[k]? = none := List.getElem?_eq_none (by omega)
          go_wp2
          go_meet
          case rel =>
            refine ⟨pcs, by unfold qMid; rw [hn], Lib.hid ?_⟩
            have e : (qIt vals bets k).quo = [] := by unfold qIt Itm.quo; rw [hn]; rfl
            rw [e, List.append_nil]
            exact HQ9.out
      case rest =>
        obtain ⟨pcs2, rfl, HQ12⟩ := hcut
        have r0 : Int.tmod (k : Int) 4 = (k : Int) % 4 := Int.tmod_eq_emod_of_nonneg (by omega)
        have r1 : (0 : Int) ≤ (k : Int) % 4 := by omega
        have r2 : (k : Int) % 4 < 4 := by omega
        have r3 : ((k : Int) % 4).toNat = k % 4 := by omega
        have hpl2 : pcs2.length < big := by
          have h1 := HQ12.out.len
          have h2 := parts_len (qIts vals bets k)
          have h3 : (qIt vals bets k).quo.length ≤ 1 := by
            unfold qIt Itm.quo
            cases bets[k]? <;> simp
          rw [qIts_len] at h2
          rw [List.length_append] at h1
          unfold big
          omega
        have hB := drew_0 wc
        clear HQ9 hpl
        go_upto_region 12 with fail
        -- REGION 12 (printed by wip/gen-quoted.py)
        refine start_ (n := 13) (S := fun w' => True) (ds := []) #[false, false, false, false, false, false, false, false, false, false, false, false, false] (by kernel_rfl) rfl rfl trivial (fun hHeld => ?_)
        refine pure_ (i := 0) (N := some 82) (v := ?_) (a' := ?_) #[true, false, false, false, false, false, false, false, false, false, false, false, false] rfl rfl (by kernel_rfl) (fun _ _ _ h => h) (Or.inl ⟨by rfl, ?_⟩) ?_ ?_
        rotate_left
        · intro w'
          go_simp
          with_reducible rfl
        rotate_left
        · simp only [Act.put, List.setIfInBounds_toArray, List.set_cons_zero, List.set_cons_succ, i64_w, i32_w]
          rfl
        refine pure_ (i := 1) (N := some 83) (v := ?_) (a' := ?_) #[true, true, false, false, false, false, false, false, false, false, false, false, false] rfl rfl (by kernel_rfl) (fun _ _ _ h => h) (Or.inl ⟨by rfl, ?_⟩) ?_ ?_
        rotate_left
        · intro w'
          go_simp
          with_reducible rfl
        rotate_left
        · simp only [Act.put, List.setIfInBounds_toArray, List.set_cons_zero, List.set_cons_succ, i64_w, i32_w]
          rfl
        refine pure_ (i := 3) (N := some 85) (v := ?_) (a' := ?_) #[true, true, false, true, false, false, false, false, false, false, false, false, false] rfl rfl (by kernel_rfl) (fun _ _ _ h => h) (Or.inl ⟨by rfl, ?_⟩) ?_ ?_
        rotate_left
        · intro w'
          go_simp
          with_reducible rfl
        rotate_left
        · simp only [Act.put, List.setIfInBounds_toArray, List.set_cons_zero, List.set_cons_succ, i64_w, i32_w]
          rfl
        refine pure_ (i := 4) (N := some 86) (v := ?_) (a' := ?_) #[true, true, false, true, true, false, false, false, false, false, false, false, false] rfl rfl (by kernel_rfl) (fun _ _ _ h => h) (Or.inl ⟨by rfl, ?_⟩) ?_ ?_
        rotate_left
        · intro w'
          go_simp
          with_reducible rfl
        rotate_left
        · simp only [Act.put, List.setIfInBounds_toArray, List.set_cons_zero, List.set_cons_succ, i64_w, i32_w]
          rfl
        refine join_ (σ := Nat × Nat) 4 #[true, true, true, true, true, true, true, true, true, false, false, false, false] (fun s => [(84, Value.slice (some ⟨s.1, 0, none⟩) 4 4), (87, Value.pointer (some ⟨s.1, k % 4, none⟩)), (88, Value.string (qOp k)), (89, Value.agg #[.int .i64 0, .string ⟨#[110, 101, 118, 101, 114]⟩, .string ⟨#[]⟩, .bool false, .slice none 0 0, .pointer none]), (90, Value.slice (some ⟨s.2, 0, none⟩) 1 1)]) (fun s w' => Below wc.heap.size wc w' ∧ w'.heap[s.1]? = some (.cells #[.string ⟨#[]⟩, .string ⟨#[45]⟩, .string ⟨#[58, 63]⟩, .string ⟨#[61]⟩] 9 (0, 0)) ∧ w'.heap[s.2]? = some (.cells #[.int .i64 0, .string ⟨#[110, 101, 118, 101, 114]⟩, .string ⟨#[]⟩, .bool false, .slice none 0 0, .pointer none] 47 (0, 0)) ∧ wc.heap.size ≤ s.2) ?_ ?_
        rotate_left
        · intro hJ2_6_7_8
          refine join_ (σ := Nat) 5 #[true, true, true, true, true, true, true, true, false, false, false, false, false] (fun s => [(84, Value.slice (some ⟨s, 0, none⟩) 4 4), (87, Value.pointer (some ⟨s, k % 4, none⟩)), (88, Value.string (qOp k)), (89, Value.agg #[.int .i64 0, .string ⟨#[110, 101, 118, 101, 114]⟩, .string ⟨#[]⟩, .bool false, .slice none 0 0, .pointer none])]) (fun s w' => Below wc.heap.size wc w' ∧ w'.heap[s]? = some (.cells #[.string ⟨#[]⟩, .string ⟨#[45]⟩, .string ⟨#[58, 63]⟩, .string ⟨#[61]⟩] 9 (0, 0))) ?_ ?_
          rotate_left
          · intro hJ2_6_7
            refine join_ (σ := Nat × Nat) 5 #[true, true, true, true, true, true, false, true, true, false, false, false, false] (fun s => [(84, Value.slice (some ⟨s.1, 0, none⟩) 4 4), (87, Value.pointer (some ⟨s.1, k % 4, none⟩)), (89, Value.agg #[.int .i64 0, .string ⟨#[110, 101, 118, 101, 114]⟩, .string ⟨#[]⟩, .bool false, .slice none 0 0, .pointer none]), (90, Value.slice (some ⟨s.2, 0, none⟩) 1 1)]) (fun s w' => Below wc.heap.size wc w' ∧ w'.heap[s.1]? = some (.cells #[.string ⟨#[]⟩, .string ⟨#[45]⟩, .string ⟨#[58, 63]⟩, .string ⟨#[61]⟩] 9 (0, 0)) ∧ w'.heap[s.2]? = some (.cells #[.int .i64 0, .string ⟨#[110, 101, 118, 101, 114]⟩, .string ⟨#[]⟩, .bool false, .slice none 0 0, .pointer none] 47 (0, 0)) ∧ wc.heap.size ≤ s.2) ?_ ?_
            rotate_left
            · intro hJ2_7_8
              refine join_ (σ := Nat) 6 #[true, true, true, true, true, true, true, false, false, false, false, false, false] (fun s => [(84, Value.slice (some ⟨s, 0, none⟩) 4 4), (87, Value.pointer (some ⟨s, k % 4, none⟩)), (88, Value.string (qOp k))]) (fun s w' => Below wc.heap.size wc w' ∧ w'.heap[s]? = some (.cells #[.string ⟨#[]⟩, .string ⟨#[45]⟩, .string ⟨#[58, 63]⟩, .string ⟨#[61]⟩] 9 (0, 0))) ?_ ?_
              rotate_left
              · intro hJ2_6
                refine join_ (σ := Nat) 6 #[true, true, true, true, true, true, false, true, false, false, false, false, false] (fun s => [(84, Value.slice (some ⟨s, 0, none⟩) 4 4), (87, Value.pointer (some ⟨s, k % 4, none⟩)), (89, Value.agg #[.int .i64 0, .string ⟨#[110, 101, 118, 101, 114]⟩, .string ⟨#[]⟩, .bool false, .slice none 0 0, .pointer none])]) (fun s w' => Below wc.heap.size wc w' ∧ w'.heap[s]? = some (.cells #[.string ⟨#[]⟩, .string ⟨#[45]⟩, .string ⟨#[58, 63]⟩, .string ⟨#[61]⟩] 9 (0, 0))) ?_ ?_
                rotate_left
                · intro hJ2_7
                  refine join_ (σ := Nat) 7 #[true, true, false, true, true, false, false, true, true, false, false, false, false] (fun s => [(89, Value.agg #[.int .i64 0, .string ⟨#[110, 101, 118, 101, 114]⟩, .string ⟨#[]⟩, .bool false, .slice none 0 0, .pointer none]), (90, Value.slice (some ⟨s, 0, none⟩) 1 1)]) (fun s w' => Below wc.heap.size wc w' ∧ w'.heap[s]? = some (.cells #[.int .i64 0, .string ⟨#[110, 101, 118, 101, 114]⟩, .string ⟨#[]⟩, .bool false, .slice none 0 0, .pointer none] 47 (0, 0)) ∧ wc.heap.size ≤ s) ?_ ?_
                  rotate_left
                  · intro hJ7_8
                    refine join_ (σ := Nat) 7 #[true, true, true, true, true, true, false, false, false, false, false, false, false] (fun s => [(84, Value.slice (some ⟨s, 0, none⟩) 4 4), (87, Value.pointer (some ⟨s, k % 4, none⟩))]) (fun s w' => Below wc.heap.size wc w' ∧ w'.heap[s]? = some (.cells #[.string ⟨#[]⟩, .string ⟨#[45]⟩, .string ⟨#[58, 63]⟩, .string ⟨#[61]⟩] 9 (0, 0))) ?_ ?_
                    rotate_left
                    · intro hJ2
                      refine join_ (σ := Unit) 8 #[true, true, false, true, true, false, false, true, false, false, false, false, false] (fun s => [(89, Value.agg #[.int .i64 0, .string ⟨#[110, 101, 118, 101, 114]⟩, .string ⟨#[]⟩, .bool false, .slice none 0 0, .pointer none])]) (fun s w' => Below wc.heap.size wc w') ?_ ?_
                      rotate_left
                      · intro hJ7
                        refine two_ (i := 2) (j := 7) (Ni := some 84) (Nj := some 89) #[true, true, true, true, true, false, false, false, false, false, false, false, false] #[true, true, false, true, true, false, false, true, false, false, false, false, false] rfl rfl rfl rfl (by kernel_rfl) (by decide) (by decide) (fun K hK => ?_) (fun K hK => ?_)
                        · skip
                          refine value_ (w1 := ?_) (v := ?_) (by rfl) rfl ?_ ?_
                          rotate_left 2
                          · go_simp
                            constructor
                            · rfl
                            · rfl
                          refine hK.out _ _ trivial (fun hHeld => ?_)
                          clear hK K
                          refine norm_ (a' := ?_) ?_ ?_
                          rotate_left
                          · show Act.put _ (some 84) _ = _
                            simp only [Act.put, List.setIfInBounds_toArray, List.set_cons_zero, List.set_cons_succ, i64_w, i32_w]
                            rfl
                          refine pure_ (i := 5) (N := some 87) (v := ?_) (a' := ?_) #[true, true, true, true, true, true, false, false, false, false, false, false, false] rfl rfl (by kernel_rfl) (fun _ _ _ h => h) (Or.inl ⟨by rfl, ?_⟩) ?_ ?_
                          rotate_left
                          · intro w'
                            go_simp
                            with_reducible rfl
                          rotate_left
                          · simp only [Act.put, List.setIfInBounds_toArray, List.set_cons_zero, List.set_cons_succ, i64_w, i32_w]
                            rfl
                          exact norm_ (by first | (simp only [putAll, Act.put, List.setIfInBounds_toArray, List.set_cons_zero, List.set_cons_succ]; done) | (simp only [putAll, Act.put, List.setIfInBounds_toArray, List.set_cons_zero, List.set_cons_succ]; rfl)) (hJ2 (wc.drew.heap.size) _ ⟨hB.alloc hB.size _, heap_alloc_new _ _⟩)
                        · skip
                          refine goes_ Tryd.func14 (by kernel_rfl) rfl #[.string ⟨#[110, 101, 118, 101, 114]⟩] (by rfl) rfl rfl (by simp only [List.map_toArray, List.map_cons, List.map_nil]; rfl) ?_
                          with_reducible refine (lit_w ⟨#[110, 101, 118, 101, 114]⟩ wc.drew).mono ?_
                          rintro en w3 ⟨rfl, hb⟩
                          refine ⟨_, rfl, ?_⟩
                          refine hK.out _ _ trivial (fun hHeld => ?_)
                          clear hK K
                          refine norm_ (a' := ?_) ?_ ?_
                          rotate_left
                          · show Act.put _ (some 89) _ = _
                            simp only [Act.put, List.setIfInBounds_toArray, List.set_cons_zero, List.set_cons_succ, i64_w, i32_w]
                            rfl
                          exact norm_ (by first | (simp only [putAll, Act.put, List.setIfInBounds_toArray, List.set_cons_zero, List.set_cons_succ]; done) | (simp only [putAll, Act.put, List.setIfInBounds_toArray, List.set_cons_zero, List.set_cons_succ]; rfl)) (hJ7 () _ (hB.trans (hb.mono hB.size)))
                      · skip
                        rintro _ X hB
                        have hHeld : True := trivial
                        skip
                        refine norm_ (a' := ?_) ?_ ?_
                        rotate_left
                        · simp only [putAll, Act.put, List.setIfInBounds_toArray, List.set_cons_zero, List.set_cons_succ]
                          rfl
                        refine two_ (i := 2) (j := 8) (Ni := some 84) (Nj := some 90) #[true, true, true, true, true, false, false, true, false, false, false, false, false] #[true, true, false, true, true, false, false, true, true, false, false, false, false] rfl rfl rfl rfl (by kernel_rfl) (by decide) (by decide) (fun K hK => ?_) (fun K hK => ?_)
                        · skip
                          refine value_ (w1 := ?_) (v := ?_) (by rfl) rfl ?_ ?_
                          rotate_left 2
                          · go_simp
                            constructor
                            · rfl
                            · rfl
                          refine hK.out _ _ trivial (fun hHeld => ?_)
                          clear hK K
                          refine norm_ (a' := ?_) ?_ ?_
                          rotate_left
                          · show Act.put _ (some 84) _ = _
                            simp only [Act.put, List.setIfInBounds_toArray, List.set_cons_zero, List.set_cons_succ, i64_w, i32_w]
                            rfl
                          refine pure_ (i := 5) (N := some 87) (v := ?_) (a' := ?_) #[true, true, true, true, true, true, false, true, false, false, false, false, false] rfl rfl (by kernel_rfl) (fun _ _ _ h => h) (Or.inl ⟨by rfl, ?_⟩) ?_ ?_
                          rotate_left
                          · intro w'
                            go_simp
                            with_reducible rfl
                          rotate_left
                          · simp only [Act.put, List.setIfInBounds_toArray, List.set_cons_zero, List.set_cons_succ, i64_w, i32_w]
                            rfl
                          exact norm_ (by first | (simp only [putAll, Act.put, List.setIfInBounds_toArray, List.set_cons_zero, List.set_cons_succ]; done) | (simp only [putAll, Act.put, List.setIfInBounds_toArray, List.set_cons_zero, List.set_cons_succ]; rfl)) (hJ2_7 (X.heap.size) _ ⟨hB.alloc hB.size _, heap_alloc_new _ _⟩)
                        · skip
                          refine value_ (w1 := ?_) (v := ?_) (by rfl) rfl ?_ ?_
                          rotate_left 2
                          · go_simp
                            constructor
                            · rfl
                            · rfl
                          refine hK.out _ _ trivial (fun hHeld => ?_)
                          clear hK K
                          refine norm_ (a' := ?_) ?_ ?_
                          rotate_left
                          · show Act.put _ (some 90) _ = _
                            simp only [Act.put, List.setIfInBounds_toArray, List.set_cons_zero, List.set_cons_succ, i64_w, i32_w]
                            rfl
                          exact norm_ (by first | (simp only [putAll, Act.put, List.setIfInBounds_toArray, List.set_cons_zero, List.set_cons_succ]; done) | (simp only [putAll, Act.put, List.setIfInBounds_toArray, List.set_cons_zero, List.set_cons_succ]; rfl)) (hJ7_8 (X.heap.size) _ ⟨hB.alloc hB.size _, heap_alloc_new _ _, hB.size⟩)
                    · skip
                      rintro NO X ⟨hB, h2⟩
                      have hHeld : True := trivial
                      try dsimp only at h2
                      have hop := ops_at h2 k
                      refine norm_ (a' := ?_) ?_ ?_
                      rotate_left
                      · simp only [putAll, Act.put, List.setIfInBounds_toArray, List.set_cons_zero, List.set_cons_succ]
                        rfl
                      refine two_ (i := 6) (j := 7) (Ni := some 88) (Nj := some 89) #[true, true, true, true, true, true, true, false, false, false, false, false, false] #[true, true, true, true, true, true, false, true, false, false, false, false, false] rfl rfl rfl rfl (by kernel_rfl) (by decide) (by decide) (fun K hK => ?_) (fun K hK => ?_)
                      · skip
                        refine value_ (w1 := ?_) (v := ?_) (by rfl) rfl ?_ ?_
                        rotate_left 2
                        · go_simp
                          constructor
                          · rfl
                          · rfl
                        refine hK.out _ _ trivial (fun hHeld => ?_)
                        clear hK K
                        refine norm_ (a' := ?_) ?_ ?_
                        rotate_left
                        · show Act.put _ (some 88) _ = _
                          simp only [Act.put, List.setIfInBounds_toArray, List.set_cons_zero, List.set_cons_succ, i64_w, i32_w]
                          rfl
                        exact norm_ (by first | (simp only [putAll, Act.put, List.setIfInBounds_toArray, List.set_cons_zero, List.set_cons_succ]; done) | (simp only [putAll, Act.put, List.setIfInBounds_toArray, List.set_cons_zero, List.set_cons_succ]; rfl)) (hJ2_6 (NO) _ ⟨hB, h2⟩)
                      · skip
                        refine goes_ Tryd.func14 (by kernel_rfl) rfl #[.string ⟨#[110, 101, 118, 101, 114]⟩] (by rfl) rfl rfl (by simp only [List.map_toArray, List.map_cons, List.map_nil]; rfl) ?_
                        with_reducible refine (lit_w ⟨#[110, 101, 118, 101, 114]⟩ X).mono ?_
                        rintro en w3 ⟨rfl, hb⟩
                        refine ⟨_, rfl, ?_⟩
                        refine hK.out _ _ trivial (fun hHeld => ?_)
                        clear hK K
                        refine norm_ (a' := ?_) ?_ ?_
                        rotate_left
                        · show Act.put _ (some 89) _ = _
                          simp only [Act.put, List.setIfInBounds_toArray, List.set_cons_zero, List.set_cons_succ, i64_w, i32_w]
                          rfl
                        exact norm_ (by first | (simp only [putAll, Act.put, List.setIfInBounds_toArray, List.set_cons_zero, List.set_cons_succ]; done) | (simp only [putAll, Act.put, List.setIfInBounds_toArray, List.set_cons_zero, List.set_cons_succ]; rfl)) (hJ2_7 (NO) _ ⟨hB.trans (hb.mono hB.size), below_obj hb h2⟩)
                  · skip
                    rintro NN X ⟨hB, h8, b8⟩
                    have hHeld : True := trivial
                    try dsimp only at h8 b8
                    refine norm_ (a' := ?_) ?_ ?_
                    rotate_left
                    · simp only [putAll, Act.put, List.setIfInBounds_toArray, List.set_cons_zero, List.set_cons_succ]
                      rfl
                    refine one_ (i := 2) (N := some 84) #[true, true, true, true, true, false, false, true, true, false, false, false, false] rfl rfl (by kernel_rfl) (by decide) (fun K hK => ?_)
                    refine value_ (w1 := ?_) (v := ?_) (by rfl) rfl ?_ ?_
                    rotate_left 2
                    · go_simp
                      constructor
                      · rfl
                      · rfl
                    refine hK.out _ _ trivial (fun hHeld => ?_)
                    clear hK K
                    refine norm_ (a' := ?_) ?_ ?_
                    rotate_left
                    · show Act.put _ (some 84) _ = _
                      simp only [Act.put, List.setIfInBounds_toArray, List.set_cons_zero, List.set_cons_succ, i64_w, i32_w]
                      rfl
                    refine pure_ (i := 5) (N := some 87) (v := ?_) (a' := ?_) #[true, true, true, true, true, true, false, true, true, false, false, false, false] rfl rfl (by kernel_rfl) (fun _ _ _ h => h) (Or.inl ⟨by rfl, ?_⟩) ?_ ?_
                    rotate_left
                    · intro w'
                      go_simp
                      with_reducible rfl
                    rotate_left
                    · simp only [Act.put, List.setIfInBounds_toArray, List.set_cons_zero, List.set_cons_succ, i64_w, i32_w]
                      rfl
                    exact norm_ (by first | (simp only [putAll, Act.put, List.setIfInBounds_toArray, List.set_cons_zero, List.set_cons_succ]; done) | (simp only [putAll, Act.put, List.setIfInBounds_toArray, List.set_cons_zero, List.set_cons_succ]; rfl)) (hJ2_7_8 (X.heap.size, NN) _ ⟨hB.alloc hB.size _, heap_alloc_new _ _, below_obj (below_a _ _) h8, b8⟩)
                · skip
                  rintro NO X ⟨hB, h2⟩
                  have hHeld : True := trivial
                  try dsimp only at h2
                  have hop := ops_at h2 k
                  refine norm_ (a' := ?_) ?_ ?_
                  rotate_left
                  · simp only [putAll, Act.put, List.setIfInBounds_toArray, List.set_cons_zero, List.set_cons_succ]
                    rfl
                  refine two_ (i := 6) (j := 8) (Ni := some 88) (Nj := some 90) #[true, true, true, true, true, true, true, true, false, false, false, false, false] #[true, true, true, true, true, true, false, true, true, false, false, false, false] rfl rfl rfl rfl (by kernel_rfl) (by decide) (by decide) (fun K hK => ?_) (fun K hK => ?_)
                  · skip
                    refine value_ (w1 := ?_) (v := ?_) (by rfl) rfl ?_ ?_
                    rotate_left 2
                    · go_simp
                      constructor
                      · rfl
                      · rfl
                    refine hK.out _ _ trivial (fun hHeld => ?_)
                    clear hK K
                    refine norm_ (a' := ?_) ?_ ?_
                    rotate_left
                    · show Act.put _ (some 88) _ = _
                      simp only [Act.put, List.setIfInBounds_toArray, List.set_cons_zero, List.set_cons_succ, i64_w, i32_w]
                      rfl
                    exact norm_ (by first | (simp only [putAll, Act.put, List.setIfInBounds_toArray, List.set_cons_zero, List.set_cons_succ]; done) | (simp only [putAll, Act.put, List.setIfInBounds_toArray, List.set_cons_zero, List.set_cons_succ]; rfl)) (hJ2_6_7 (NO) _ ⟨hB, h2⟩)
                  · skip
                    refine value_ (w1 := ?_) (v := ?_) (by rfl) rfl ?_ ?_
                    rotate_left 2
                    · go_simp
                      constructor
                      · rfl
                      · rfl
                    refine hK.out _ _ trivial (fun hHeld => ?_)
                    clear hK K
                    refine norm_ (a' := ?_) ?_ ?_
                    rotate_left
                    · show Act.put _ (some 90) _ = _
                      simp only [Act.put, List.setIfInBounds_toArray, List.set_cons_zero, List.set_cons_succ, i64_w, i32_w]
                      rfl
                    exact norm_ (by first | (simp only [putAll, Act.put, List.setIfInBounds_toArray, List.set_cons_zero, List.set_cons_succ]; done) | (simp only [putAll, Act.put, List.setIfInBounds_toArray, List.set_cons_zero, List.set_cons_succ]; rfl)) (hJ2_7_8 (NO, X.heap.size) _ ⟨hB.alloc hB.size _, below_obj (below_a _ _) h2, heap_alloc_new _ _, hB.size⟩)
              · skip
                rintro NO X ⟨hB, h2⟩
                have hHeld : True := trivial
                try dsimp only at h2
                have hop := ops_at h2 k
                refine norm_ (a' := ?_) ?_ ?_
                rotate_left
                · simp only [putAll, Act.put, List.setIfInBounds_toArray, List.set_cons_zero, List.set_cons_succ]
                  rfl
                refine one_ (i := 7) (N := some 89) #[true, true, true, true, true, true, true, true, false, false, false, false, false] rfl rfl (by kernel_rfl) (by decide) (fun K hK => ?_)
                refine goes_ Tryd.func14 (by kernel_rfl) rfl #[.string ⟨#[110, 101, 118, 101, 114]⟩] (by rfl) rfl rfl (by simp only [List.map_toArray, List.map_cons, List.map_nil]; rfl) ?_
                with_reducible refine (lit_w ⟨#[110, 101, 118, 101, 114]⟩ X).mono ?_
                rintro en w3 ⟨rfl, hb⟩
                refine ⟨_, rfl, ?_⟩
                refine hK.out _ _ trivial (fun hHeld => ?_)
                clear hK K
                refine norm_ (a' := ?_) ?_ ?_
                rotate_left
                · show Act.put _ (some 89) _ = _
                  simp only [Act.put, List.setIfInBounds_toArray, List.set_cons_zero, List.set_cons_succ, i64_w, i32_w]
                  rfl
                exact norm_ (by first | (simp only [putAll, Act.put, List.setIfInBounds_toArray, List.set_cons_zero, List.set_cons_succ]; done) | (simp only [putAll, Act.put, List.setIfInBounds_toArray, List.set_cons_zero, List.set_cons_succ]; rfl)) (hJ2_6_7 (NO) _ ⟨hB.trans (hb.mono hB.size), below_obj hb h2⟩)
            · skip
              rintro ⟨NO, NN⟩ X ⟨hB, h2, h8, b8⟩
              have hHeld : True := trivial
              try dsimp only at h2 h8 b8
              have hop := ops_at h2 k
              refine norm_ (a' := ?_) ?_ ?_
              rotate_left
              · simp only [putAll, Act.put, List.setIfInBounds_toArray, List.set_cons_zero, List.set_cons_succ]
                rfl
              refine one_ (i := 6) (N := some 88) #[true, true, true, true, true, true, true, true, true, false, false, false, false] rfl rfl (by kernel_rfl) (by decide) (fun K hK => ?_)
              refine value_ (w1 := ?_) (v := ?_) (by rfl) rfl ?_ ?_
              rotate_left 2
              · go_simp
                constructor
                · rfl
                · rfl
              refine hK.out _ _ trivial (fun hHeld => ?_)
              clear hK K
              refine norm_ (a' := ?_) ?_ ?_
              rotate_left
              · show Act.put _ (some 88) _ = _
                simp only [Act.put, List.setIfInBounds_toArray, List.set_cons_zero, List.set_cons_succ, i64_w, i32_w]
                rfl
              exact norm_ (by first | (simp only [putAll, Act.put, List.setIfInBounds_toArray, List.set_cons_zero, List.set_cons_succ]; done) | (simp only [putAll, Act.put, List.setIfInBounds_toArray, List.set_cons_zero, List.set_cons_succ]; rfl)) (hJ2_6_7_8 (NO, NN) _ ⟨hB, h2, h8, b8⟩)
          · skip
            rintro NO X ⟨hB, h2⟩
            have hHeld : True := trivial
            try dsimp only at h2
            have hop := ops_at h2 k
            refine norm_ (a' := ?_) ?_ ?_
            rotate_left
            · simp only [putAll, Act.put, List.setIfInBounds_toArray, List.set_cons_zero, List.set_cons_succ]
              rfl
            refine one_ (i := 8) (N := some 90) #[true, true, true, true, true, true, true, true, true, false, false, false, false] rfl rfl (by kernel_rfl) (by decide) (fun K hK => ?_)
            refine value_ (w1 := ?_) (v := ?_) (by rfl) rfl ?_ ?_
            rotate_left 2
            · go_simp
              constructor
              · rfl
              · rfl
            refine hK.out _ _ trivial (fun hHeld => ?_)
            clear hK K
            refine norm_ (a' := ?_) ?_ ?_
            rotate_left
            · show Act.put _ (some 90) _ = _
              simp only [Act.put, List.setIfInBounds_toArray, List.set_cons_zero, List.set_cons_succ, i64_w, i32_w]
              rfl
            exact norm_ (by first | (simp only [putAll, Act.put, List.setIfInBounds_toArray, List.set_cons_zero, List.set_cons_succ]; done) | (simp only [putAll, Act.put, List.setIfInBounds_toArray, List.set_cons_zero, List.set_cons_succ]; rfl)) (hJ2_6_7_8 (NO, X.heap.size) _ ⟨hB.alloc hB.size _, below_obj (below_a _ _) h2, heap_alloc_new _ _, hB.size⟩)
        rintro ⟨NO, NN⟩ X ⟨hB, h2, h8, b8⟩
        have hHeld : True := trivial
        try dsimp only at h2 h8 b8
        have hop := ops_at h2 k
        refine norm_ (a' := ?_) ?_ ?_
        rotate_left
        · simp only [putAll, Act.put, List.setIfInBounds_toArray, List.set_cons_zero, List.set_cons_succ]
          rfl
        refine one_ (i := 9) (N := some 91) #[true, true, true, true, true, true, true, true, true, true, false, false, false] rfl rfl (by kernel_rfl) (by decide) (fun K hK => ?_)
        refine goes_ Tryd.func13 (by kernel_rfl) rfl #[.string (nameB k), .string (qOp k), .bool true, .slice (some ⟨NN, 0, none⟩) 1 1] (by rfl) rfl rfl (by simp only [List.map_toArray, List.map_cons, List.map_nil]; rfl) ?_
        with_reducible refine (par_w (nameB k) (qOp k) true (some ⟨NN, 0, none⟩) 1 1 X).mono ?_
        rintro en w5 ⟨rfl, hb⟩
        refine ⟨_, rfl, ?_⟩
        have HQ13 := Lib.hid (HQ12.out.below (hB.trans (hb.mono hB.size)))
        have hn5 := below_obj hb h8
        refine hK.out _ _ trivial (fun hHeld => ?_)
        clear hK K
        refine norm_ (a' := ?_) ?_ ?_
        rotate_left
        · show Act.put _ (some 91) _ = _
          simp only [Act.put, List.setIfInBounds_toArray, List.set_cons_zero, List.set_cons_succ, i64_w, i32_w]
          rfl
        refine one_ (i := 10) (N := some 92) #[true, true, true, true, true, true, true, true, true, true, true, false, false] rfl rfl (by kernel_rfl) (by decide) (fun K hK => ?_)
        refine value_ (w1 := ?_) (v := ?_) (by rfl) rfl ?_ ?_
        rotate_left 2
        · go_simp
          constructor
          · rfl
          · rfl
        refine hK.out _ _ trivial (fun hHeld => ?_)
        clear hK K
        refine norm_ (a' := ?_) ?_ ?_
        rotate_left
        · show Act.put _ (some 92) _ = _
          simp only [Act.put, List.setIfInBounds_toArray, List.set_cons_zero, List.set_cons_succ, i64_w, i32_w]
          rfl
        refine one_ (i := 11) (N := some 93) #[true, true, true, true, true, true, true, true, true, true, true, true, false] rfl rfl (by kernel_rfl) (by decide) (fun K hK => ?_)
        refine ap_pt_st (by rfl) (.tmp 82) (.tmp 92) rfl u5 pcs2 ((2, nameB k, qOp k, true, (some ⟨NN, 0, none⟩, 1, 1), none) : PC) rfl rfl (by simp) HQ13.out.hW hpl2 ?_
        intro A4 n4 c4 w6 hvr3 hg3 hat3
        refine hK.out _ _ trivial (fun hHeld => ?_)
        clear hK K
        refine norm_ (a' := ?_) ?_ ?_
        rotate_left
        · show Act.put _ (some 93) _ = _
          simp only [Act.put, List.setIfInBounds_toArray, List.set_cons_zero, List.set_cons_succ, i64_w, i32_w]
          rfl
        refine pure_ (i := 12) (N := some 5) (v := ?_) (a' := ?_) #[true, true, true, true, true, true, true, true, true, true, true, true, true] rfl rfl (by kernel_rfl) (fun _ _ _ h => h) (Or.inl ⟨by rfl, ?_⟩) ?_ ?_
        rotate_left
        · intro w'
          go_simp
          with_reducible rfl
        rotate_left
        · simp only [Act.put, List.setIfInBounds_toArray, List.set_cons_zero, List.set_cons_succ, i64_w, i32_w]
          rfl
        refine done_ (by kernel_rfl) ?_
        -- END OF REGION 12
        have HQ14 : Hid (QIn w w6 w.heap.size (itsL (qIts vals bets (k + 1))) ((qIts vals bets (k + 1)).flatMap Itm.parts) (.slice A2 n2 c2) (.slice A4 n4 c4) (pcs2 ++ [((2, nameB k, qOp k, true, (some ⟨NN, 0, none⟩, 1, 1), none) : PC)])) := Lib.hid (by
          have hne : some NN ≠ u5.ownBlock := fun e => by
            have := (own_ty HQ12.out.hW e.symm).lt
            omega
          have hw : WordAt 1 (fun k => Ty w5 k 47 ∧ some k ≠ u5.ownBlock) w5 (some ⟨NN, 0, none⟩) 1 neverW :=
            word_row (ps := neverW) (rows := [[.int .i64 0, .string ⟨#[110, 101, 118, 101, 114]⟩, .string ⟨#[]⟩, .bool false, .slice none 0 0, .pointer none]]) hn5 ⟨⟨_, _, hn5⟩, hne⟩ (by show (1 : Nat) ≤ 1000; omega) rfl rfl (fun j q qs h1 h2 => by
              match j, h1, h2 with
              | 0, h1, h2 => cases h1; cases h2; exact ⟨rfl, leaf_at _ _ _ _ _ _ _⟩)
          have h := QIn.part (p := (qIt vals bets k).par) (pc := ((2, nameB k, qOp k, true, (some ⟨NN, 0, none⟩, 1, 1), none) : PC)) HQ13.out (part_at hw (Nat.le_refl _) 2 (nameB k) (qOp k) true) hvr3 hg3 hat3
          have e : (qIts vals bets (k + 1)).flatMap Itm.parts = ((qIts vals bets k).flatMap Itm.parts ++ (qIt vals bets k).quo) ++ [(qIt vals bets k).par] := by
            rw [qIts_succ, List.flatMap_append]
            simp [Itm.parts]
          rw [e]
          exact h)
        clear HQ12 HQ13 hvr3 hg3 hat3 hn5 h8 b8 h2 hop hB hpl2
        have hLk : (itsL (qIts vals bets (k + 1)))[k]? = some (nameB k, cutB s0 80) := by
          rw [itsL_succ, List.getElem?_append_right (by rw [itsL_len]; exact Nat.le_refl _), itsL_len, Nat.sub_self, List.getD_eq_getElem?_getD, hs0]
          rfl
        obtain ⟨hn2, hc2, hC2⟩ := Kd.R_reads' HQ14.out.hL
        rw [itsL_len] at hn2
        obtain ⟨adL, rfl, y1, y2⟩ := var_at hC2 hLk
        have bx := (blk_cell HQ14.out.box 0).trans rfl
        have hz := cutB_size s0 80
        have hms : (qMid vals bets k).size ≤ 120 * k + 40 := by
          unfold qMid
          have := qWant_size vals bets k
          cases bets[k]? with
          | none => show (qWant vals bets k).size ≤ _; omega
          | some t =>
            show (qWant vals bets k ++ cutB t 40).size ≤ _
            have h1 := cutB_size t 40
            rw [ByteArray.size_append]
            omega
        have b2 : (9223372036854775807 < (qMid vals bets k).size + (cutB s0 80).size) = False := eq_false (by omega)
        have hnk : (k : Int) < (n2 : Int) := by omega
        clear hc2 hC2 hLk hn2
        go_upto_region 14 with fail
        have hwk : qWant vals bets (k + 1) = qMid vals bets k ++ cutB s0 80 := by
          rw [qWant_mid, List.getD_eq_getElem?_getD, hs0]
          rfl
        have hvk : cutB (vals.getD k ⟨#[]⟩) 80 = cutB s0 80 := by
          rw [List.getD_eq_getElem?_getD, hs0]
          rfl
        have HWK := Lib.hid (And.intro hwk hvk)
        clear hwk hvk hz hms b2
        generalize cutB s0 80 = v9 at HWK y2 ⊢
        by_cases hbad : k % 4 = 2 ∧ v9 = ⟨#[]⟩
        · obtain ⟨h42, rfl⟩ := hbad
          have t1 : (k : Int) % 4 = 2 := by omega
          have bx1 := (blk_cell HQ14.out.box 1).trans rfl
          have bx2 := (blk_cell HQ14.out.box 2).trans rfl
          obtain ⟨e', hbx⟩ := bad_q vals bets k hk80 HF.out h42 HWK.out.2
          obtain ⟨A5, c5, e5, hcall⟩ := HQ14.out.expand HT.out hbx
          generalize hnl : ((qIts vals bets (k + 1)).flatMap Itm.parts).length = nl at e5 hcall
          clear hnl
          cases e5
          have HCALL := Lib.hid hcall
          clear h42 hbx hcall
          go_wp2_with (first
            | (go_at_call 9; refine HCALL.out.mono ?_; rintro en wz ⟨A6, n6, c6, rfl, hr, hz⟩; have HZ := Lib.hid hz; clear hr hz)
            | (go_at_call 10; refine (works_w _ (tab_below HT.out HZ.out)).mono ?_; rintro en wy ⟨rfl, hy⟩; have HY := Lib.hid (HZ.out.trans (hy.mono HZ.out.size)); clear hy))
          go_ret
          exact ⟨rfl, HY.out⟩
        · have HFN : Hid (qFine vals bets (k + 1)) := Lib.hid (by
            intro x hx
            rw [qIts_succ, List.mem_append, List.mem_singleton] at hx
            rcases hx with hx | rfl
            · exact HF.out x hx
            · rintro ⟨h1, h2⟩
              refine hbad ⟨qOp_col h1, ?_⟩
              rw [← HWK.out.2]
              exact h2)
          by_cases h42 : k % 4 = 2
          · have t1 : (k : Int) % 4 = 2 := by omega
            have hv0 : ¬ v9 = ⟨#[]⟩ := fun e => hbad ⟨h42, e⟩
            have t2 := str_ne hv0
            have t3 : (v9.toList == (⟨#[]⟩ : B).toList) = false := by simpa using t2
            have t4 : ¬ v9.toList = [] := by simpa using t2
            have t5 : (v9.toList == []) = false := by simpa using t4
            clear hbad h42 hv0
            go_wp2
            go_roundw
            case rel => exact ⟨k + 1, _, _, by omega, by omega, by go_num, by rw [HWK.out.1], HQ14, HFN⟩
            case measure => simp [intOf]; omega
          · have t1 : ¬ (k : Int) % 4 = 2 := by omega
            clear hbad h42
            go_wp2
            go_roundw
            case rel => exact ⟨k + 1, _, _, by omega, by omega, by go_num, by rw [HWK.out.1], HQ14, HFN⟩
            case measure => simp [intOf]; omega
    · by_cases hlv : k < vals.length
      · have a1' : (k : Int) < (vals.length : Int) := by omega
        have a2' : ¬ (k : Int) < 8 := by omega
        have HX := HQ.out
        obtain ⟨e', hgx⟩ := good_q vals bets k hk8 HF.out
        obtain ⟨A5, c5, e5, hcall⟩ := HX.expand HT.out hgx
        generalize hnl : ((qIts vals bets k).flatMap Itm.parts).length = nl at e5 hcall
        clear hnl
        cases e5
        have bx0 := (blk_cell HX.box 0).trans rfl
        have bx1 := (blk_cell HX.box 1).trans rfl
        have bx2 := (blk_cell HX.box 2).trans rfl
        have HCALL := Lib.hid hcall
        have hwt : ((qIts vals bets k).flatMap Itm.runs).foldl (fun a r => a ++ r.t) ⟨#[]⟩ = qWant vals bets k := runs_text _ _
        have hws : (qWant vals bets k).size ≤ 960 := by
          have := qWant_size vals bets k
          omega
        have HRQ := Lib.hid (runs_quoted (qIts vals bets k))
        generalize (qIts vals bets k).flatMap Itm.runs = runs at HCALL hwt HRQ
        generalize qWant vals bets k = want at hwt hws ⊢
        have HWT := Lib.hid hwt
        clear hgx hcall hwt HX HQ
        go_wp2_with (go_at_call 9; refine HCALL.out.mono ?_; rintro en wz ⟨A6, n6, c6, rfl, hr, hz⟩; have HZ := Lib.hid hz; have HR := Lib.hid hr; have hn6 : n6 = 1 := hr.1.symm; subst hn6; clear hr hz)
        obtain ⟨_, _, hrd⟩ := HR.out
        obtain ⟨ad, rfl, -, hcell⟩ := hrd (by decide)
        obtain ⟨A', c', x1, x2, x3, -⟩ := hcell 0 runs rfl
        have z1 : wz.cell? ad = some (.slice A' runs.length c') := x1
        have hrl := x3.2.1
        have HX3 := Lib.hid x3
        clear hcell hrd x1 x2 x3
        go_loopw [15, 14] (fun i g wq => ∃ (q : Nat) (s : B), q ≤ runs.length ∧ i = .int .i64 q ∧ g = .string s ∧ Hid ((runs.drop q).foldl (fun a r => a ++ r.t) s = want) ∧ wq = wz) (fun i _ _ => runs.length - (intOf i).toNat)
        case atStart => exact ⟨0, ⟨#[]⟩, Nat.zero_le _, rfl, rfl, HWT, rfl⟩
        case round =>
          obtain ⟨q, s, hq, rfl, rfl, HS, rfl⟩ := hrel
          by_cases hql : q < runs.length
          · obtain ⟨r, hr⟩ : ∃ r, runs[q]? = some r := ⟨_, List.getElem?_eq_getElem hql⟩
            obtain ⟨ar, rfl, y1, y2, y3⟩ := rn_at HX3.out hr
            obtain ⟨hrq, hrs⟩ := HRQ.out r (List.mem_of_getElem? hr)
            have hs := HS.out
            rw [drop_cons hr, List.foldl_cons] at hs
            have hsz := foldt_size (runs.drop (q + 1)) (s ++ r.t)
            rw [hs, ByteArray.size_append] at hsz
            have b1 : (9223372036854775807 < s.size + r.t.size) = False := eq_false (by omega)
            have a1 : (q : Int) < (runs.length : Int) := by omega
            have HS2 := Lib.hid hs
            clear hs hsz HS hr
            obtain ⟨rt, rq, rs⟩ := r
            simp only at hrq hrs
            subst hrq hrs
            go_wp2
            go_roundw
            case rel => exact ⟨q + 1, _, by omega, by go_num, rfl, HS2, (by first | rfl | trivial)⟩
            case measure => simp [intOf]; omega
          · have a1 : ¬ (q : Int) < (runs.length : Int) := by omega
            have hs := HS.out
            rw [List.drop_eq_nil_of_le (by omega)] at hs
            have hs2 : s = want := hs
            subst hs2
            go_wp2_with (go_at_call 10; refine (works_w _ (tab_below HT.out HZ.out)).mono ?_; rintro en wy ⟨rfl, hy⟩; have HY := Lib.hid (HZ.out.trans (hy.mono HZ.out.size)); clear hy)
            go_ret
            exact ⟨rfl, HY.out⟩
      · have a1' : ¬ (k : Int) < (vals.length : Int) := by omega
        have HX := HQ.out
        obtain ⟨e', hgx⟩ := good_q vals bets k hk8 HF.out
        obtain ⟨A5, c5, e5, hcall⟩ := HX.expand HT.out hgx
        generalize hnl : ((qIts vals bets k).flatMap Itm.parts).length = nl at e5 hcall
        clear hnl
        cases e5
        have bx0 := (blk_cell HX.box 0).trans rfl
        have bx1 := (blk_cell HX.box 1).trans rfl
        have bx2 := (blk_cell HX.box 2).trans rfl
        have HCALL := Lib.hid hcall
        have hwt : ((qIts vals bets k).flatMap Itm.runs).foldl (fun a r => a ++ r.t) ⟨#[]⟩ = qWant vals bets k := runs_text _ _
        have hws : (qWant vals bets k).size ≤ 960 := by
          have := qWant_size vals bets k
          omega
        have HRQ := Lib.hid (runs_quoted (qIts vals bets k))
        generalize (qIts vals bets k).flatMap Itm.runs = runs at HCALL hwt HRQ
        generalize qWant vals bets k = want at hwt hws ⊢
        have HWT := Lib.hid hwt
        clear hgx hcall hwt HX HQ
        go_wp2_with (go_at_call 9; refine HCALL.out.mono ?_; rintro en wz ⟨A6, n6, c6, rfl, hr, hz⟩; have HZ := Lib.hid hz; have HR := Lib.hid hr; have hn6 : n6 = 1 := hr.1.symm; subst hn6; clear hr hz)
        obtain ⟨_, _, hrd⟩ := HR.out
        obtain ⟨ad, rfl, -, hcell⟩ := hrd (by decide)
        obtain ⟨A', c', x1, x2, x3, -⟩ := hcell 0 runs rfl
        have z1 : wz.cell? ad = some (.slice A' runs.length c') := x1
        have hrl := x3.2.1
        have HX3 := Lib.hid x3
        clear hcell hrd x1 x2 x3
        go_loopw [15, 14] (fun i g wq => ∃ (q : Nat) (s : B), q ≤ runs.length ∧ i = .int .i64 q ∧ g = .string s ∧ Hid ((runs.drop q).foldl (fun a r => a ++ r.t) s = want) ∧ wq = wz) (fun i _ _ => runs.length - (intOf i).toNat)
        case atStart => exact ⟨0, ⟨#[]⟩, Nat.zero_le _, rfl, rfl, HWT, rfl⟩
        case round =>
          obtain ⟨q, s, hq, rfl, rfl, HS, rfl⟩ := hrel
          by_cases hql : q < runs.length
          · obtain ⟨r, hr⟩ : ∃ r, runs[q]? = some r := ⟨_, List.getElem?_eq_getElem hql⟩
            obtain ⟨ar, rfl, y1, y2, y3⟩ := rn_at HX3.out hr
            obtain ⟨hrq, hrs⟩ := HRQ.out r (List.mem_of_getElem? hr)
            have hs := HS.out
            rw [drop_cons hr, List.foldl_cons] at hs
            have hsz := foldt_size (runs.drop (q + 1)) (s ++ r.t)
            rw [hs, ByteArray.size_append] at hsz
            have b1 : (9223372036854775807 < s.size + r.t.size) = False := eq_false (by omega)
            have a1 : (q : Int) < (runs.length : Int) := by omega
            have HS2 := Lib.hid hs
            clear hs hsz HS hr
            obtain ⟨rt, rq, rs⟩ := r
            simp only at hrq hrs
            subst hrq hrs
            go_wp2
            go_roundw
            case rel => exact ⟨q + 1, _, by omega, by go_num, rfl, HS2, (by first | rfl | trivial)⟩
            case measure => simp [intOf]; omega
          · have a1 : ¬ (q : Int) < (runs.length : Int) := by omega
            have hs := HS.out
            rw [List.drop_eq_nil_of_le (by omega)] at hs
            have hs2 : s = want := hs
            subst hs2
            go_wp2_with (go_at_call 10; refine (works_w _ (tab_below HT.out HZ.out)).mono ?_; rintro en wy ⟨rfl, hy⟩; have HY := Lib.hid (HZ.out.trans (hy.mono HZ.out.size)); clear hy)
            go_ret
            exact ⟨rfl, HY.out⟩

end Go.Proofs.YthbnnlhkcaomlaaDoor.Ex
