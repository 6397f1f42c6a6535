/- The walk of glob.chars: an iterator over the characters of a pattern's runs. -/
import Derived.Test.YthbnnlhkcaomlaaDoorGlobSetf
import Derived.Test.YthbnnlhkcaomlaaDoorGlobRegIn
import Derived.RangeFuncNested
import Derived.RangeFuncBound
import Derived.RangeFuncCalls
import Derived.RangeFuncLeaves
import Derived.Shelf.Abstract
import Derived.Shelf.RegionOpen
import Derived.OwnWalkIn
import Derived.TacticsInMore
import Derived.LoopNIn
import Derived.LoopIn
namespace Go.Proofs.YthbnnlhkcaomlaaDoor.Gl
open Go.RowKit Go.Shelf Go.Proofs.YthbnnlhkcaomlaaDoorW.PrintWords
attribute [local go_sem] Oper.semAt_some

/-- A run: its text, whether it is quoted, whether it came of an expansion. -/
structure Rn where
  t : ByteArray
  q : Bool
  s : Bool

def RnR (r : Rn) (cs : List Value) : Prop := cs = [.string r.t, .bool r.q, .bool r.s]
abbrev ReadsRn (w : World) (A : Option Addr) (l : List Rn) : Prop := ReadsRow RnR 3 w A l.length l

theorem ReadsRn.at_ {w : World} {A : Option Addr} {l : List Rn} (h : ReadsRn w A l) {i : Nat} {r : Rn} (hi : l[i]? = some r) :
    ∃ ad, A = some ad ∧ w.cell? (ad.add (i * 3)) = some (.string r.t) ∧ w.cell? ⟨(ad.add (i * 3)).block, (ad.add (i * 3)).off + 1, none⟩ = some (.bool r.q) ∧
      w.cell? ⟨(ad.add (i * 3)).block, (ad.add (i * 3)).off + 2, none⟩ = some (.bool r.s) := by
  have hlt : i < l.length := (List.getElem?_eq_some_iff.1 hi).1
  obtain ⟨ad, e, hc⟩ := h.2.2 (by omega)
  obtain ⟨cs, _, hr, hcell⟩ := hc i r hi
  unfold RnR at hr
  subst hr
  refine ⟨ad, e, hcell 0 _ rfl, ?_, ?_⟩
  · rw [← add_field ad (i * 3) 1 (by omega)]; exact hcell 1 _ rfl
  · rw [← add_field ad (i * 3) 2 (by omega)]; exact hcell 2 _ rfl

def chOf (r : Rn) : List Ch := r.t.data.toList.map fun b => (b, r.q)
def charsOf (l : List Rn) : List Ch := l.flatMap chOf

theorem charsOf_take_succ {l : List Rn} {k : Nat} {r : Rn} (h : l[k]? = some r) : charsOf (l.take (k + 1)) = charsOf (l.take k) ++ chOf r := by
  rw [List.take_add_one, h]; simp [charsOf]
theorem chOf_take_succ (r : Rn) {j : Nat} (h : j < r.t.size) : (chOf r).take (j + 1) = (chOf r).take j ++ [(r.t[j], r.q)] := by
  have hl : j < (chOf r).length := by simpa [chOf] using h
  rw [List.take_succ_eq_append_getElem hl]
  simp [chOf]; rfl

theorem List.take_prefix_charsOf (l : List Rn) (k : Nat) : charsOf (l.take k) <+: charsOf l :=
  ⟨charsOf (l.drop k), by unfold charsOf; rw [← List.flatMap_append, List.take_append_drop]⟩
theorem _root_.List.IsPrefix.length_lt {α : Type} {p l : List α} {x : α} (h : p ++ [x] <+: l) : p.length < l.length := by have := h.length_le; simp at this; omega
theorem lt_of_get {w : World} {k : Nat} {o : Obj} (h : w.heap[k]? = some o) : k < w.heap.size := (Array.getElem?_eq_some_iff.1 h).1

theorem size_le_chars {l : List Rn} {r : Rn} (h : r ∈ l) : r.t.size ≤ (charsOf l).length := by
  obtain ⟨a, b, rfl⟩ := List.append_of_mem h
  simp [charsOf, chOf]; omega

/-- What a round of the caller must keep: what lay below n₀, and every run's own box. -/
def KpC (n₀ : Nat) (W W' : World) : Prop := Below n₀ W W' ∧ ∀ (k : Nat) (cs : Array Value), W.heap[k]? = some (.cells cs 40 (0, 0)) → W'.heap[k]? = some (.cells cs 40 (0, 0))

theorem KpC.trans {n₀ : Nat} {A B C : World} (h : KpC n₀ A B) (k : KpC n₀ B C) : KpC n₀ A C := ⟨h.1.trans k.1, fun i cs hi => k.2 i cs (h.2 i cs hi)⟩
theorem KpC.refl (n₀ : Nat) (A : World) : KpC n₀ A A := ⟨Below.refl _ _, fun _ _ h => h⟩

set_option maxRecDepth 100000 in
set_option maxHeartbeats 4000000 in
set_option maxRecDepth 100000 in
theorem chars1_in (F : Fence) (n : Nat) (hF : F.fn 71) (hro : F.round = none) (hn : 1 ≤ n) (l Bp n₀ : Nat) (rs : List Rn) (A : Option Addr) (cap : Nat) (J Jx : List Ch → World → Prop)
    (hY : ∀ pre x W, J pre W → pre.length < (charsOf rs).length → YieldAt F (n - 1) Tryd.prog l #[.agg #[.int .u8 (x.1.toNat : Int), .bool x.2]] W fun e W' =>
      (e = .returned (.bool true) ∧ J (pre ++ [x]) W' ∧ KpC n₀ W W') ∨ (e = .returned (.bool false) ∧ Jx (pre ++ [x]) W'))
    (W : World) (hJ : AbidesFrom W.heap.size J) (hBp : W.cell? ⟨Bp, 0, none⟩ = some (.slice A rs.length cap)) (hA : ∀ ad, A = some ad → 0 < rs.length → ad.block < n₀) (hn₀ : n₀ ≤ W.heap.size) (hR : ReadsRn W A rs) (hts : ∀ r ∈ rs, r.t.size ≤ 1099511627776) (h0 : J [] W) :
    CallsIn F n Tryd.prog 71 #[.func (.yield l) #[] #[], .pointer (some ⟨Bp, 0, none⟩)] W fun e W' => (∃ v, e = .returned v) ∧
      ((∃ ys, ys = charsOf rs ∧ J ys W') ∨ (∃ pre, pre <+: charsOf rs ∧ Jx pre W')) := by
  have hmix : Tryd.prog.follows .mixedOrders = true := by kernel_rfl
  have hm := hR.2.1
  refine callsIn_of_wp Tryd.func71 rfl hF ?_ hro
  simp only [Tryd.ntmps71, List.size_toArray, List.length_cons, List.length_nil, Nat.reduceAdd, Nat.reduceSub, Array.replicate_succ, Array.replicate_zero, List.push_toArray, List.append_toArray, List.nil_append, List.cons_append]
  gi_wp2
  gi_loopw [8] (fun i wr => ∃ k : Nat, k ≤ rs.length ∧ i = .int .i64 k ∧ J (charsOf (rs.take k)) wr ∧ Below n₀ W wr ∧ W.heap.size ≤ wr.heap.size) (fun i _ => rs.length - (intOf i).toNat)
  case atStart => exact ⟨0, Nat.zero_le _, rfl, h0, Below.refl _ _, Nat.le_refl _⟩
  case round =>
    obtain ⟨k, hk, rfl, hJs, hnx, hsz⟩ := hrel
    by_cases hlt : k < rs.length
    · obtain ⟨r, hr⟩ : ∃ r, rs[k]? = some r := ⟨_, List.getElem?_eq_getElem hlt⟩
      obtain ⟨ad, rfl, c1, c2, c3⟩ := hR.at_ hr
      have hab : ad.block < n₀ := hA ad rfl (by omega)
      have r1 := (hnx.cell (p := ad.add (k * 3)) (by rw [add_block]; exact hab)).trans c1
      have r2 := (hnx.cell (p := ⟨(ad.add (k * 3)).block, (ad.add (k * 3)).off + 1, none⟩) (by show (ad.add (k * 3)).block < n₀; rw [add_block]; exact hab)).trans c2
      have r3 := (hnx.cell (p := ⟨(ad.add (k * 3)).block, (ad.add (k * 3)).off + 2, none⟩) (by show (ad.add (k * 3)).block < n₀; rw [add_block]; exact hab)).trans c3
      have HR := Lib.hid hr
      clear hr c1 c2 c3
      obtain ⟨t, q, s⟩ := r
      dsimp only at r1 r2 r3
      obtain ⟨wo, rfl⟩ : ∃ wo : World, wo = wr := ⟨_, rfl⟩
      have hbx : (wo.alloc (.cells #[.string t, .bool q, .bool s] 40)).heap[wo.heap.size]? = some (.cells #[.string t, .bool q, .bool s] 40 (0, 0)) := heap_alloc_new wo _
      have hJ1 : J (charsOf (rs.take k)) (wo.alloc (.cells #[.string t, .bool q, .bool s] 40)) := hJ _ _ _ none hJs (World.grownBy_alloc wo _ none) (fun r e => by cases e)
      have hnx1 : Below n₀ W (wo.alloc (.cells #[.string t, .bool q, .bool s] 40)) := hnx.alloc (by omega) _
      have hsz1 : W.heap.size ≤ (wo.alloc (.cells #[.string t, .bool q, .bool s] 40)).heap.size := by simp; omega
      have hts : t.size ≤ 1099511627776 := hts ⟨t, q, s⟩ (List.mem_of_getElem? HR.out)
      have HBX := Lib.hid hbx
      clear hbx
      gi_wp2
      clear r1 r2 r3 hJs hnx
      gi_loopw [15] (fun i wr => ∃ j : Nat, j ≤ t.size ∧ i = .int .i64 j ∧ J (charsOf (rs.take k) ++ (chOf ⟨t, q, s⟩).take j) wr ∧ Below n₀ W wr ∧ W.heap.size ≤ wr.heap.size ∧ wo.heap.size < wr.heap.size ∧
        Hid (wr.heap[wo.heap.size]? = some (.cells #[.string t, .bool q, .bool s] 40 (0, 0)))) (fun i _ => t.size - (intOf i).toNat)
      case atStart => exact ⟨0, Nat.zero_le _, rfl, by simpa using hJ1, hnx1, hsz1, by simp, HBX.out⟩
      case round =>
        obtain ⟨j, hj, rfl, hJj, hnj, hszj, hwj, HB⟩ := hrel
        have b1 : wr.cell? ⟨wo.heap.size, 0, none⟩ = some (.string t) := blk_cell HB.out 0
        have b2 : wr.cell? ⟨wo.heap.size, 1, none⟩ = some (.bool q) := blk_cell HB.out 1
        by_cases hjt : j < t.size
        · have HPX : Hid (charsOf (rs.take k) ++ (chOf ⟨t, q, s⟩).take j ++ [(t[j], q)] <+: charsOf rs) := by
            have e1 := charsOf_take_succ HR.out
            have e2 := chOf_take_succ ⟨t, q, s⟩ hjt
            refine List.IsPrefix.trans ?_ (List.take_prefix_charsOf rs (k + 1))
            rw [e1, List.append_assoc, ← e2]
            exact List.prefix_append_right_inj _ |>.2 (List.take_prefix _ _)
          have hJd : J (charsOf (rs.take k) ++ (chOf ⟨t, q, s⟩).take j) wr.drew := hJ _ _ _ none hJj ⟨rfl, rfl, rfl, Nat.le_refl _, fun _ _ _ => rfl⟩ (fun r e => by cases e)
          obtain ⟨fn, tmps, assign, body, hy, hRd⟩ := hY _ (t[j], q) wr.drew hJd HPX.out.length_lt
          dsimp only at hy
          have hRd2 := hRd.mono (R' := fun e W' => ∃ b : Bool, e = .returned (.bool b) ∧ ((b = true ∧ J (charsOf (rs.take k) ++ (chOf ⟨t, q, s⟩).take j ++ [(t[j], q)]) W' ∧ KpC n₀ wr.drew W') ∨ (b = false ∧ Jx (charsOf (rs.take k) ++ (chOf ⟨t, q, s⟩).take j ++ [(t[j], q)]) W')))
            (by rintro e W' (⟨rfl, h1, h2⟩ | ⟨rfl, h1⟩); exact ⟨true, rfl, .inl ⟨rfl, h1, h2⟩⟩; exact ⟨false, rfl, .inr ⟨rfl, h1⟩⟩)
          clear hRd
          gi_wp2
          refine wpIn_region_inv hmix (fun lst a W' => ∃ (b0 b1 b2 b3 b4 b5 b6 b7 b8 b9 : Bool) (x18 x19 x20 x21 x22 x23 x24 x25 x26 x27 : Value), lst = #[b0, b1, b2, b3, b4, b5, b6, b7, b8, b9] ∧ a = { tmps := #[.func (.yield l) #[] #[], .pointer (some ⟨Bp, 0, none⟩), undef, undef, .pointer (some ⟨wo.heap.size, 0, none⟩), .int .i64 (j : Int), .slice (some ad) rs.length cap, .int .i64 (rs.length : Int), .int .i64 (k : Int), .bool true, .pointer (some (ad.add (k * 3))), .agg #[.string t, .bool q, .bool s], .pointer (some ⟨wo.heap.size, 0, none⟩), .string t, .int .i64 (t.size : Int), .int .i64 (j : Int), .bool true, .int .i64 (j : Int), x18, x19, x20, x21, x22, x23, x24, x25, x26, x27, u28, u29], defers := [] } ∧ (b0 = true → x18 = .func (.yield l) #[] #[]) ∧ (b1 = true → x19 = .pointer (some ⟨wo.heap.size, 0, none⟩)) ∧ (b2 = true → x20 = .string t) ∧ (b3 = true → x21 = .int .i64 (j : Int)) ∧ (b4 = true → x22 = .int .u8 (t[j].toNat : Int)) ∧ (b5 = true → x23 = .pointer (some ⟨wo.heap.size, 1, none⟩)) ∧ (b6 = true → x24 = .bool q) ∧ (b7 = true → x25 = .agg #[.int .u8 (t[j].toNat : Int), .bool q]) ∧ Hid ((b2 = true → b1 = true) ∧ (b4 = true → b2 = true ∧ b3 = true) ∧ (b6 = true → b5 = true) ∧ (b7 = true → b4 = true ∧ b6 = true)) ∧ (b8 = true → b0 = true ∧ b1 = true ∧ b2 = true ∧ b3 = true ∧ b4 = true ∧ b5 = true ∧ b6 = true ∧ b7 = true) ∧ (b9 = true → b8 = true) ∧ (b8 = false → W' = wr.drew) ∧ (b8 = true → ∃ b : Bool, x26 = .bool b ∧ (b9 = true → x27 = .bool (!b)) ∧ ((b = true ∧ J (charsOf (rs.take k) ++ (chOf ⟨t, q, s⟩).take j ++ [(t[j], q)]) W' ∧ KpC n₀ wr.drew W') ∨ (b = false ∧ Jx (charsOf (rs.take k) ++ (chOf ⟨t, q, s⟩).take j ++ [(t[j], q)]) W')))) ?r0 ?rst ?rend
          case r0 => exact ⟨false, false, false, false, false, false, false, false, false, false, _, _, _, _, _, _, _, _, _, _, rfl, rfl, (fun h => by cases h), (fun h => by cases h), (fun h => by cases h), (fun h => by cases h), (fun h => by cases h), (fun h => by cases h), (fun h => by cases h), (fun h => by cases h), Lib.hid ⟨(fun h => by cases h), (fun h => by cases h), (fun h => by cases h), (fun h => by cases h)⟩, (fun h => by cases h), (fun h => by cases h), (fun _ => rfl), (fun h => by cases h)⟩
          case rst =>
            rintro lst a W' i o hs ⟨b0, b1, b2, b3, b4, b5, b6, b7, b8, b9, x18, x19, x20, x21, x22, x23, x24, x25, x26, x27, rfl, rfl, h0, h1, h2, h3, h4, h5, h6, h7, HQ, hb8, hb9, hw, hp⟩ hi ho hd K' hK
            have hi10 : i < 10 := by have := (List.getElem?_eq_some_iff.1 ho).1; simpa using this
            obtain rfl | rfl | rfl | rfl | rfl | rfl | rfl | rfl | rfl | rfl : i = 0 ∨ i = 1 ∨ i = 2 ∨ i = 3 ∨ i = 4 ∨ i = 5 ∨ i = 6 ∨ i = 7 ∨ i = 8 ∨ i = 9 := by omega
            all_goals obtain rfl := Option.some.inj ho
            all_goals simp [Region.binds] at hd
            all_goals simp at hi
            all_goals subst hi
            all_goals clear ho hs hi10
            · have h8 : b8 = false := by cases b8 with | false => rfl | true => (have := hb8 rfl; simp at this)
              subst h8
              obtain rfl := hw rfl
              clear hp hb8 hw
              go_simp
              refine hK _ _ ⟨true, b1, b2, b3, b4, b5, b6, b7, false, b9, _, _, _, _, _, _, _, _, _, _, rfl, rfl, (fun _ => rfl), h1, h2, h3, h4, h5, h6, h7, HQ, (fun h => by cases h), hb9, (fun _ => rfl), (fun h => by cases h)⟩
            · have h8 : b8 = false := by cases b8 with | false => rfl | true => (have := hb8 rfl; simp at this)
              subst h8
              obtain rfl := hw rfl
              clear hp hb8 hw
              go_simp
              refine hK _ _ ⟨b0, true, b2, b3, b4, b5, b6, b7, false, b9, _, _, _, _, _, _, _, _, _, _, rfl, rfl, h0, (fun _ => rfl), h2, h3, h4, h5, h6, h7, Lib.hid ⟨(fun _ => rfl), HQ.out.2.1, HQ.out.2.2.1, HQ.out.2.2.2⟩, (fun h => by cases h), hb9, (fun _ => rfl), (fun h => by cases h)⟩
            · have h8 : b8 = false := by cases b8 with | false => rfl | true => (have := hb8 rfl; simp at this)
              subst h8
              obtain rfl := hw rfl
              clear hp hb8 hw
              obtain rfl := h1 hd
              go_simp
              refine hK _ _ ⟨b0, b1, true, b3, b4, b5, b6, b7, false, b9, _, _, _, _, _, _, _, _, _, _, rfl, rfl, h0, (fun _ => rfl), (fun _ => rfl), h3, h4, h5, h6, h7, Lib.hid ⟨(fun _ => hd), (fun h => ⟨rfl, (HQ.out.2.1 h).2⟩), HQ.out.2.2.1, HQ.out.2.2.2⟩, (fun h => by cases h), hb9, (fun _ => rfl), (fun h => by cases h)⟩
            · have h8 : b8 = false := by cases b8 with | false => rfl | true => (have := hb8 rfl; simp at this)
              subst h8
              obtain rfl := hw rfl
              clear hp hb8 hw
              go_simp
              refine hK _ _ ⟨b0, b1, b2, true, b4, b5, b6, b7, false, b9, _, _, _, _, _, _, _, _, _, _, rfl, rfl, h0, h1, h2, (fun _ => rfl), h4, h5, h6, h7, Lib.hid ⟨HQ.out.1, (fun h => ⟨(HQ.out.2.1 h).1, rfl⟩), HQ.out.2.2.1, HQ.out.2.2.2⟩, (fun h => by cases h), hb9, (fun _ => rfl), (fun h => by cases h)⟩
            · have h8 : b8 = false := by cases b8 with | false => rfl | true => (have := hb8 rfl; simp at this)
              subst h8
              obtain rfl := hw rfl
              clear hp hb8 hw
              obtain rfl := h2 hd.1
              obtain rfl := h3 hd.2
              go_simp
              refine hK _ _ ⟨b0, b1, b2, b3, true, b5, b6, b7, false, b9, _, _, _, _, _, _, _, _, _, _, rfl, rfl, h0, h1, (fun _ => rfl), (fun _ => rfl), (fun _ => rfl), h5, h6, h7, Lib.hid ⟨HQ.out.1, (fun _ => hd), HQ.out.2.2.1, (fun h => ⟨rfl, (HQ.out.2.2.2 h).2⟩)⟩, (fun h => by cases h), hb9, (fun _ => rfl), (fun h => by cases h)⟩
            · have h8 : b8 = false := by cases b8 with | false => rfl | true => (have := hb8 rfl; simp at this)
              subst h8
              obtain rfl := hw rfl
              clear hp hb8 hw
              go_simp
              refine hK _ _ ⟨b0, b1, b2, b3, b4, true, b6, b7, false, b9, _, _, _, _, _, _, _, _, _, _, rfl, rfl, h0, h1, h2, h3, h4, (fun _ => rfl), h6, h7, Lib.hid ⟨HQ.out.1, HQ.out.2.1, (fun _ => rfl), HQ.out.2.2.2⟩, (fun h => by cases h), hb9, (fun _ => rfl), (fun h => by cases h)⟩
            · have h8 : b8 = false := by cases b8 with | false => rfl | true => (have := hb8 rfl; simp at this)
              subst h8
              obtain rfl := hw rfl
              clear hp hb8 hw
              obtain rfl := h5 hd
              go_simp
              refine hK _ _ ⟨b0, b1, b2, b3, b4, b5, true, b7, false, b9, _, _, _, _, _, _, _, _, _, _, rfl, rfl, h0, h1, h2, h3, h4, (fun _ => rfl), (fun _ => rfl), h7, Lib.hid ⟨HQ.out.1, HQ.out.2.1, (fun _ => hd), (fun h => ⟨(HQ.out.2.2.2 h).1, rfl⟩)⟩, (fun h => by cases h), hb9, (fun _ => rfl), (fun h => by cases h)⟩
            · have h8 : b8 = false := by cases b8 with | false => rfl | true => (have := hb8 rfl; simp at this)
              subst h8
              obtain rfl := hw rfl
              clear hp hb8 hw
              obtain rfl := h4 hd.1
              obtain rfl := h6 hd.2
              go_simp
              refine hK _ _ ⟨b0, b1, b2, b3, b4, b5, b6, true, false, b9, _, _, _, _, _, _, _, _, _, _, rfl, rfl, h0, h1, h2, h3, (fun _ => rfl), h5, (fun _ => rfl), (fun _ => rfl), Lib.hid ⟨HQ.out.1, HQ.out.2.1, HQ.out.2.2.1, (fun _ => hd)⟩, (fun h => by cases h), hb9, (fun _ => rfl), (fun h => by cases h)⟩
            · obtain rfl := hw rfl
              obtain ⟨d0, d7⟩ := hd
              subst d0 d7
              obtain rfl := h0 rfl
              obtain rfl := h7 rfl
              have hb0 : b9 = false := by cases b9 with | false => rfl | true => exact absurd (hb9 rfl) (by decide)
              subst hb0
              clear hp hb8 hw hb9 h0 h7
              have hall : b1 = true ∧ b2 = true ∧ b3 = true ∧ b4 = true ∧ b5 = true ∧ b6 = true := (by obtain ⟨q2, q4, q6, q7⟩ := HQ.out; exact ⟨q2 (q4 (q7 rfl).1).1, (q4 (q7 rfl).1).1, (q4 (q7 rfl).1).2, (q7 rfl).1, q6 (q7 rfl).2, (q7 rfl).2⟩)
              have HALL := Lib.hid hall
              clear hall HQ
              go_simp
              gi_wp2_with (refine hRd2.mono ?_; rintro e W'' ⟨b, rfl, hcase⟩)
              exact ⟨true, b1, b2, b3, b4, b5, b6, true, true, false, _, _, _, _, _, _, _, _, _, _, rfl, rfl, (fun _ => rfl), (fun _ => by first | rfl | exact h1 HALL.out.1), (fun _ => by first | rfl | exact h2 HALL.out.2.1), (fun _ => by first | rfl | exact h3 HALL.out.2.2.1), (fun _ => by first | rfl | exact h4 HALL.out.2.2.2.1), (fun _ => by first | rfl | exact h5 HALL.out.2.2.2.2.1), (fun _ => by first | rfl | exact h6 HALL.out.2.2.2.2.2), (fun _ => rfl), Lib.hid ⟨(fun _ => HALL.out.1), (fun _ => ⟨HALL.out.2.1, HALL.out.2.2.1⟩), (fun _ => HALL.out.2.2.2.2.1), (fun _ => ⟨HALL.out.2.2.2.1, HALL.out.2.2.2.2.2⟩)⟩, (fun _ => ⟨rfl, HALL.out.1, HALL.out.2.1, HALL.out.2.2.1, HALL.out.2.2.2.1, HALL.out.2.2.2.2.1, HALL.out.2.2.2.2.2, rfl⟩), (fun h => by cases h), (fun h => by cases h), (fun _ => ⟨b, rfl, (fun h => by cases h), hcase⟩)⟩
            · subst hd
              obtain ⟨b, rfl, _, hcase⟩ := hp rfl
              go_simp
              refine hK _ _ ⟨b0, b1, b2, b3, b4, b5, b6, b7, true, true, _, _, _, _, _, _, _, _, _, _, rfl, rfl, (fun _ => rfl), (fun _ => rfl), (fun _ => rfl), (fun _ => rfl), (fun _ => rfl), (fun _ => rfl), (fun _ => rfl), (fun _ => rfl), HQ, hb8, (fun _ => rfl), (fun h => by cases h), (fun _ => ⟨b, rfl, (fun _ => rfl), hcase⟩)⟩
          case rend =>
            rintro lst a W' hs ⟨b0, b1, b2, b3, b4, b5, b6, b7, b8, b9, x18, x19, x20, x21, x22, x23, x24, x25, x26, x27, rfl, rfl, -, -, -, -, -, -, -, -, -, hb8, -, -, hp⟩ hall
            obtain rfl : b0 = true := by simpa using hall 0 _ rfl (by simp)
            obtain rfl : b1 = true := by simpa using hall 1 _ rfl (by simp)
            obtain rfl : b2 = true := by simpa using hall 2 _ rfl (by simp)
            obtain rfl : b3 = true := by simpa using hall 3 _ rfl (by simp)
            obtain rfl : b4 = true := by simpa using hall 4 _ rfl (by simp)
            obtain rfl : b5 = true := by simpa using hall 5 _ rfl (by simp)
            obtain rfl : b6 = true := by simpa using hall 6 _ rfl (by simp)
            obtain rfl : b7 = true := by simpa using hall 7 _ rfl (by simp)
            obtain rfl : b8 = true := by simpa using hall 8 _ rfl (by simp)
            obtain rfl : b9 = true := by simpa using hall 9 _ rfl (by simp)
            obtain ⟨b, rfl, h27, hcase⟩ := hp rfl
            obtain rfl := h27 rfl
            clear hp hb8 hall hs
            rcases hcase with ⟨rfl, hJ3, hk3⟩ | ⟨rfl, hJx3⟩
            · gi_wp2
              go_roundw
              case rel =>
                refine ⟨j + 1, by omega, by go_num, ?_, hnj.trans ((Below.refl _ wr).drew.trans hk3.1), ?_, ?_, Lib.hid (hk3.2 _ _ HB.out)⟩
                · rw [chOf_take_succ _ hjt, ← List.append_assoc]; exact hJ3
                · have := lt_of_get (hk3.2 _ _ HB.out); omega
                · exact lt_of_get (hk3.2 _ _ HB.out)
              case measure => simp [intOf]; omega
            · gi_wp2
              exact bodyPost_ret (results_none rfl _ _ _) rfl ⟨⟨_, rfl⟩, .inr ⟨_, HPX.out, hJx3⟩⟩
        · gi_wp2
          go_roundw
          case rel =>
            refine ⟨k + 1, by omega, by go_num, ?_, hnj, hszj⟩
            obtain rfl : j = t.size := by omega
            rw [charsOf_take_succ HR.out]
            have e : (chOf ⟨t, q, s⟩).take t.size = chOf ⟨t, q, s⟩ := List.take_of_length_le (by simp [chOf])
            rw [e] at hJj; exact hJj
          case measure => simp [intOf]; omega
    · gi_wp2
      go_end0
      obtain rfl : k = rs.length := by omega
      rw [List.take_length] at hJs
      exact ⟨⟨_, rfl⟩, .inl ⟨_, rfl, hJs⟩⟩
end Go.Proofs.YthbnnlhkcaomlaaDoor.Gl
