/- The walks of the laws' helpers: bare, quoted, three, rows. -/
import Derived.Test.YthbnnlhkcaomlaaGlobPlain
import Derived.Test.YthbnnlhkcaomlaaGlobRegSpec
namespace Go.Proofs.Ythbnnlhkcaomlaa.Gl
open Go.RowKit Go.Shelf Go.Proofs.YthbnnlhkcaomlaaW.PrintWords

/-- A pattern's slice. -/
def RowAt (w : World) (v : Value) (l : List Rn) : Prop := ∃ A c, v = .slice A l.length c ∧ l.length ≤ c ∧ ReadsRn w A l ∧ ∀ ad, A = some ad → 0 < l.length → ad.block < w.heap.size
theorem RowAt.below {w w1 : World} {v : Value} {l : List Rn} (h : RowAt w v l) (hb : Below w.heap.size w w1) : RowAt w1 v l := by
  obtain ⟨A, c, e, hc, hr, hA⟩ := h
  exact ⟨A, c, e, hc, ReadsRow.imp_ hr hb fun _ _ h => h, fun ad e h => Nat.lt_of_lt_of_le (hA ad e h) hb.size⟩
def StrR (s : ByteArray) (cs : List Value) : Prop := cs = [.string s]
/-- A slice of texts. -/
def StrAt (w : World) (v : Value) (l : List ByteArray) : Prop := ∃ A c, v = .slice A l.length c ∧ ReadsRow StrR 1 w A l.length l
theorem StrAt.below {w w1 : World} {v : Value} {l : List ByteArray} (h : StrAt w v l) (hb : Below w.heap.size w w1) : StrAt w1 v l := by
  obtain ⟨A, c, e, hr⟩ := h
  exact ⟨A, c, e, ReadsRow.imp_ hr hb fun _ _ h => h⟩
theorem StrAt.nil (w : World) : StrAt w (.slice none 0 0) [] := ⟨none, 0, rfl, rfl, by simp, fun h => absurd h (Nat.lt_irrefl 0)⟩

theorem reads_new {α : Type} {R : α → List Value → Prop} {size : Nat} (w : World) (l : List α) (cs : List Value) (t : TypeId) (hr : Reps R size l cs) (hm : l.length ≤ 9223372036854775807) :
    ReadsRow R size (w.alloc (.cells cs.toArray t)) (some ⟨w.heap.size, 0, none⟩) l.length l := by
  refine ⟨rfl, hm, fun _ => ⟨_, rfl, fun j p hj => ?_⟩⟩
  have hjl := (List.getElem?_eq_some_iff.1 hj).1
  have hle : (j + 1) * size ≤ l.length * size := Nat.mul_le_mul_right size hjl
  rw [Nat.add_mul, Nat.one_mul] at hle
  refine ⟨(cs.drop (j * size)).take size, by rw [List.length_take, List.length_drop, hr.1]; omega, hr.2 j p hj, fun i u hu => ?_⟩
  refine cells_new w cs t (j * size + i) u ?_
  rw [List.getElem?_take] at hu
  split at hu
  · rw [List.getElem?_drop] at hu; exact hu
  · cases hu

theorem row_new (w : World) (l : List Rn) (hm : l.length ≤ 9223372036854775807) :
    RowAt (w.alloc (.cells (l.flatMap fun r => [Value.string r.t, .bool r.q, .bool r.s]).toArray 33)) (.slice (some ⟨w.heap.size, 0, none⟩) l.length l.length) l := by
  refine ⟨_, _, rfl, Nat.le_refl _, reads_new w l _ _ ?_ hm, fun ad e _ => by cases e; simp⟩
  have key : ∀ (n : Nat) (l : List Rn), l.length = n → Reps RnR 3 l (l.flatMap fun r => [Value.string r.t, .bool r.q, .bool r.s]) := by
    intro n
    induction n with
    | zero => intro l h; rw [List.length_eq_zero_iff.1 h]; exact Reps.none _ _
    | succ n ih =>
      intro l h
      rcases List.eq_nil_or_concat l with rfl | ⟨l', x, rfl⟩
      · simp at h
      · rw [List.concat_eq_append] at h ⊢
        rw [List.flatMap_append]
        exact (ih _ (by simpa using h)).snoc rfl rfl
  exact key _ l rfl

theorem str_new (w : World) (l : List ByteArray) (hm : l.length ≤ 9223372036854775807) :
    StrAt (w.alloc (.cells (l.map Value.string).toArray 9)) (.slice (some ⟨w.heap.size, 0, none⟩) l.length l.length) l := by
  refine ⟨_, _, rfl, reads_new w l _ _ ?_ hm⟩
  have key : ∀ (n : Nat) (l : List ByteArray), l.length = n → Reps StrR 1 l (l.map Value.string) := by
    intro n
    induction n with
    | zero => intro l h; rw [List.length_eq_zero_iff.1 h]; exact Reps.none _ _
    | succ n ih =>
      intro l h
      rcases List.eq_nil_or_concat l with rfl | ⟨l', x, rfl⟩
      · simp at h
      · rw [List.concat_eq_append] at h ⊢
        rw [List.map_append]
        exact (ih _ (by simpa using h)).snoc rfl rfl
  exact key _ l rfl

set_option maxHeartbeats 400000 in
theorem bare_walk (s : ByteArray) (w : World) :
    Calls Try.prog 15 #[.string s] w fun e w' => ∃ v, e = .returned v ∧ Below w.heap.size w w' ∧ RowAt w' v [⟨s, false, false⟩] := by
  go_enter Try.func15, Try.ntmps15
  go_wp2
  go_ret
  exact ⟨_, rfl, (Below.refl _ _).alloc (Nat.le_refl _) _, row_new w [⟨s, false, false⟩] (by simp)⟩

set_option maxHeartbeats 400000 in
theorem quoted_walk (s : ByteArray) (w : World) :
    Calls Try.prog 23 #[.string s] w fun e w' => ∃ v, e = .returned v ∧ Below w.heap.size w w' ∧ RowAt w' v [⟨s, true, false⟩] := by
  go_enter Try.func23, Try.ntmps23
  go_wp2
  go_ret
  exact ⟨_, rfl, (Below.refl _ _).alloc (Nat.le_refl _) _, row_new w [⟨s, true, false⟩] (by simp)⟩

set_option maxHeartbeats 800000 in
theorem three_walk (a b c : ByteArray) (w : World) :
    Calls Try.prog 16 #[.string a, .string b, .string c] w fun e w' => ∃ v, e = .returned v ∧ Below w.heap.size w w' ∧ RowAt w' v [⟨a, false, false⟩, ⟨b, true, false⟩, ⟨c, false, false⟩] := by
  go_enter Try.func16, Try.ntmps16
  go_wp2
  go_ret
  exact ⟨_, rfl, (Below.refl _ _).alloc (Nat.le_refl _) _, row_new w [⟨a, false, false⟩, ⟨b, true, false⟩, ⟨c, false, false⟩] (by simp)⟩

theorem StrAt.at_ {w : World} {A : Option Addr} {l : List ByteArray} (h : ReadsRow StrR 1 w A l.length l) {i : Nat} {s : ByteArray} (hi : l[i]? = some s) :
    ∃ ad, A = some ad ∧ w.cell? (ad.add i) = some (.string s) := by
  have hlt : i < l.length := (List.getElem?_eq_some_iff.1 hi).1
  obtain ⟨ad, e, hc⟩ := h.2.2 (by omega)
  obtain ⟨cs, _, hr, hcell⟩ := hc i s hi
  unfold StrR at hr
  subst hr
  exact ⟨ad, e, by have := hcell 0 _ rfl; rwa [Nat.mul_one, Nat.add_zero] at this⟩

/-- A pattern's answer. -/
def mm (l : List Rn) (s : ByteArray) : Bool := matchP (pieces (charsOf l)) s.data.toList

set_option maxRecDepth 100000 in
set_option maxHeartbeats 4000000 in
theorem rows_walk (l : List Rn) (yes no : List ByteArray) (v1 v2 v3 : Value) (w : World) (h1 : RowAt w v1 l) (h2 : StrAt w v2 yes) (h3 : StrAt w v3 no) (hts : (charsOf l).length ≤ 1099511627776)
    (hy : ∀ s ∈ yes, s.size ≤ 1099511627776 ∧ mm l s = true) (hn : ∀ s ∈ no, s.size ≤ 1099511627776 ∧ mm l s = false) :
    Calls Try.prog 24 #[v1, v2, v3] w fun e w' => e = .returned (.bool true) ∧ Below w.heap.size w w' := by
  obtain ⟨A1, c1, rfl, hc1, hr1, hA1⟩ := h1
  obtain ⟨A2, c2, rfl, hr2⟩ := h2
  obtain ⟨A3, c3, rfl, hr3⟩ := h3
  have hm2 := hr2.2.1
  have hm3 := hr3.2.1
  have HM : Hid (∀ (W : World) (s : ByteArray), Below w.heap.size w W → s.size ≤ 1099511627776 → Calls Try.prog 11 #[.slice A1 l.length c1, .string s] W fun e w' => e = .returned (.bool (mm l s)) ∧ Below W.heap.size W w') :=
    fun W s hW hs => match_walk l A1 c1 s W (fun ad e h => Nat.lt_of_lt_of_le (hA1 ad e h) hW.size) (hr1.below_ hA1 hW) hts hs
  have HR2 : Hid (∀ W, Below w.heap.size w W → ReadsRow StrR 1 W A2 yes.length yes) := fun W hW => ReadsRow.imp_ hr2 hW fun _ _ h => h
  have HR3 : Hid (∀ W, Below w.heap.size w W → ReadsRow StrR 1 W A3 no.length no) := fun W hW => ReadsRow.imp_ hr3 hW fun _ _ h => h
  have HY := Lib.hid hy
  have HN := Lib.hid hn
  clear hr1 hr2 hr3 hy hn hA1
  go_enter Try.func24, Try.ntmps24
  go_wp2
  go_loopw [7] (fun i wr => ∃ k : Nat, k ≤ yes.length ∧ i = .int .i64 k ∧ Below w.heap.size w wr) (fun i _ => yes.length - (intOf i).toNat)
  case atStart => exact ⟨0, Nat.zero_le _, rfl, Below.refl _ _⟩
  case round =>
    obtain ⟨k, hk, rfl, hb⟩ := hrel
    by_cases hlt : k < yes.length
    · obtain ⟨s, hs⟩ : ∃ s, yes[k]? = some s := ⟨_, List.getElem?_eq_getElem hlt⟩
      obtain ⟨ad, rfl, x1⟩ := StrAt.at_ (HR2.out _ hb) hs
      have HS := Lib.hid (HY.out s (List.mem_of_getElem? hs))
      clear hs
      go_wp2_with (go_at_call 11; refine (HM.out _ s hb HS.out.1).mono ?_; rintro e w2 ⟨rfl, hb2⟩; rw [HS.out.2])
      go_roundw
      case rel => exact ⟨k + 1, by omega, by go_num, hb.trans (hb2.mono hb.size)⟩
      case measure => simp [intOf]; omega
    · go_wp2
      go_loopw [8] (fun i wr => ∃ k : Nat, k ≤ no.length ∧ i = .int .i64 k ∧ Below w.heap.size w wr) (fun i _ => no.length - (intOf i).toNat)
      case atStart => exact ⟨0, Nat.zero_le _, rfl, hb⟩
      case round =>
        clear hb
        obtain ⟨k, hk, rfl, hb⟩ := hrel
        by_cases hlt : k < no.length
        · obtain ⟨s, hs⟩ : ∃ s, no[k]? = some s := ⟨_, List.getElem?_eq_getElem hlt⟩
          obtain ⟨ad, rfl, x1⟩ := StrAt.at_ (HR3.out _ hb) hs
          have HS := Lib.hid (HN.out s (List.mem_of_getElem? hs))
          clear hs
          go_wp2_with (go_at_call 11; refine (HM.out _ s hb HS.out.1).mono ?_; rintro e w2 ⟨rfl, hb2⟩; rw [HS.out.2])
          go_roundw
          case rel => exact ⟨k + 1, by omega, by go_num, hb.trans (hb2.mono hb.size)⟩
          case measure => simp [intOf]; omega
        · go_wp2
          go_ret
          exact ⟨rfl, hb⟩
end Go.Proofs.Ythbnnlhkcaomlaa.Gl
