/- The walk of glob.Plain. -/
import Derived.Test.YthbnnlhkcaomlaaDoorGlobMatch
namespace Go.Proofs.YthbnnlhkcaomlaaDoor.Gl
open Go.RowKit Go.Shelf Go.Proofs.YthbnnlhkcaomlaaDoorW.PrintWords

def wsRen : Go.Shelf.Ren := ⟨fun | 166 => 49 | 240 => 56 | 276 => 68 | n => n, fun | 70 => 97 | 3 => 3 | 0 => 0 | 4 => 4 | 9 => 9 | 20 => 20 | 72 => 99 | 37 => 42 | 164 => 130 | 75 => 102 | 80 => 105 | 5 => 5 | n => n, fun | n => n⟩
theorem wsLays : Go.Proofs.Lays.n166 Tryd.prog wsRen := {
  mixed := by kernel_rfl
  f166 := Tryd.func49.trans (congrArg some (by kernel_rfl))
  f240 := Tryd.func56.trans (congrArg some (by kernel_rfl))
  f276 := Tryd.func68.trans (congrArg some (by kernel_rfl))
  t0 := Tryd.underlying0
  a0 := Tryd.isAgg0
  z0 := Tryd.sizeOf0
  v0 := Tryd.zeroValue0
  t3 := Tryd.underlying3
  a3 := Tryd.isAgg3
  z3 := Tryd.sizeOf3
  v3 := Tryd.zeroValue3
  t4 := Tryd.underlying4
  a4 := Tryd.isAgg4
  z4 := Tryd.sizeOf4
  v4 := Tryd.zeroValue4
  t9 := Tryd.underlying9
  a9 := Tryd.isAgg9
  z9 := Tryd.sizeOf9
  v9 := Tryd.zeroValue9
  t20 := Tryd.underlying20
  a20 := Tryd.isAgg20
  z20 := Tryd.sizeOf20
  v20 := Tryd.zeroValue20
  t37 := Tryd.underlying42
  a37 := Tryd.isAgg42
  z37 := Tryd.sizeOf42
  v37 := Tryd.zeroValue42
  t70 := Tryd.underlying97
  a70 := Tryd.isAgg97
  z70 := Tryd.sizeOf97
  v70 := Tryd.zeroValue97
  t72 := Tryd.underlying99
  a72 := Tryd.isAgg99
  z72 := Tryd.sizeOf99
  v72 := Tryd.zeroValue99
  t75 := Tryd.underlying102
  a75 := Tryd.isAgg102
  z75 := Tryd.sizeOf102
  v75 := Tryd.zeroValue102
  t164 := Tryd.underlying130
  a164 := Tryd.isAgg130
  z164 := Tryd.sizeOf130
  v164 := Tryd.zeroValue130 }
theorem wsExtra : Builder.Extra Tryd.prog wsRen := {
  sizeBuilder := by kernel_rfl
  liesBuilder := by kernel_rfl
  t5 := Tryd.underlying5
  a5 := Tryd.isAgg5
  z5 := Tryd.sizeOf5
  v5 := Tryd.zeroValue5
  infoByte := by kernel_rfl
  cellsByte := by kernel_rfl
  sizeByte := by kernel_rfl
  neB5 := by decide }

theorem writes (B b : Nat) (bs : List Value) (s : ByteArray) (w : World) (h : Lib.IsBuilder 99 5 B b bs w) (hlen : bs.length + s.size ≤ 140737488355328) (hBw : B ≤ w.heap.size) :
    Calls Tryd.prog 49 #[.pointer (some ⟨b, 0, none⟩), .string s] w fun e w' => e = .returned (.tuple #[.int .i64 s.size, .nilIface]) ∧ (Lib.BuilderAt 99 5 B b (.pointer (some ⟨b, 0, none⟩)) (bs ++ Lib.strCells s) w' ∧ Below B w w') := Any.Builder_WriteString wsLays wsExtra B b bs s w h hlen hBw

theorem bld_below {T e : TypeId} {B b : Nat} {bs : List Value} {W W' : World} (h : Lib.IsBuilder T e B b bs W) (hb : Below W.heap.size W W') : Lib.IsBuilder T e B b bs W' := by
  rcases h with ⟨h1, v, h2, h3, h4⟩ | ⟨h1, v, h2, h3, h4⟩
  · exact .inl ⟨h1, v, (hb.block b (lt_of_get h2)).trans h2, pw_own_below h3 hb, h4⟩
  · exact .inr ⟨h1, v, (hb.block b (lt_of_get h2)).trans h2, pw_own_below h3 hb, h4⟩

def plainL (rs : List Rn) : List UInt8 := rs.flatMap fun r => r.t.data.toList
theorem plainL_take_succ {l : List Rn} {k : Nat} {r : Rn} (h : l[k]? = some r) : plainL (l.take (k + 1)) = plainL (l.take k) ++ r.t.data.toList := by
  rw [List.take_add_one, h]; simp [plainL]
theorem plainL_length (l : List Rn) : (plainL l).length = (charsOf l).length := by
  induction l with
  | nil => rfl
  | cons r l ih => simp [plainL, charsOf, chOf] at ih ⊢
theorem charsOf_take_le (l : List Rn) (k : Nat) : (charsOf (l.take k)).length ≤ (charsOf l).length := (List.take_prefix_charsOf l k).length_le

set_option maxRecDepth 100000 in
set_option maxHeartbeats 1600000 in
set_option maxRecDepth 100000 in
theorem plain_walk (rs : List Rn) (A : Option Addr) (cap : Nat) (w : World)
    (hA : ∀ ad, A = some ad → 0 < rs.length → ad.block < w.heap.size) (hR : ReadsRn w A rs) (hts : (charsOf rs).length ≤ 1099511627776) :
    Calls Tryd.prog 43 #[.slice A rs.length cap] w fun e w' => e = .returned (.string ⟨(plainL rs).toArray⟩) ∧ Below w.heap.size w w' := by
  have hm := hR.2.1
  go_enter Tryd.func43, Tryd.ntmps43
  go_wp2
  have hB0 : Lib.IsBuilder 99 5 w.heap.size w.heap.size (Lib.byteCells (plainL (rs.take 0))) (w.alloc (.cells #[.pointer none, .slice none 0 0] 99)) :=
    .inl ⟨Nat.le_refl _, .slice none 0 0, heap_alloc_new w _, World.ownsRow_nil _ _ _ _, by simp [Value.ownBlock]⟩
  have HB0 := Lib.hid hB0
  clear hB0
  go_loopw [8] (fun i wr => ∃ k : Nat, k ≤ rs.length ∧ i = .int .i64 k ∧ Hid (Lib.IsBuilder 99 5 w.heap.size w.heap.size (Lib.byteCells (plainL (rs.take k))) wr) ∧ Below w.heap.size w wr) (fun i _ => rs.length - (intOf i).toNat)
  case atStart => exact ⟨0, Nat.zero_le _, rfl, HB0.out, (Below.refl _ _).alloc (Nat.le_refl _) _⟩
  case round =>
    obtain ⟨k, hk, rfl, hbd, hb⟩ := hrel
    by_cases hlt : k < rs.length
    · obtain ⟨r, hr⟩ : ∃ r, rs[k]? = some r := ⟨_, List.getElem?_eq_getElem hlt⟩
      obtain ⟨ad, rfl, c1, c2, c3⟩ := (hR.below_ hA hb).at_ hr
      have hlen := charsOf_take_le rs (k + 1)
      rw [charsOf_take_succ hr, List.length_append] at hlen
      have hlr : (chOf r).length = r.t.size := by simp [chOf]
      have HR := Lib.hid hr
      clear hr
      obtain ⟨t, q, s⟩ := r
      dsimp only at c1 c2 c3 hlr
      go_wp2_with (go_at_call 49; refine (writes w.heap.size w.heap.size _ t _ (bld_below hbd.out ((Below.refl _ _).alloc (Nat.le_refl _) _)) (by rw [Lib.byteCells_length, plainL_length]; omega) (by simp; exact Nat.le_succ_of_le hb.size)).mono ?_; rintro e w2 ⟨rfl, hbd2, hb2⟩)
      go_roundw
      case rel =>
        refine ⟨k + 1, by omega, by go_num, ?_, (hb.alloc hb.size _).trans hb2⟩
        rw [plainL_take_succ HR.out, Lib.byteCells_append]
        exact .inr hbd2
      case measure => simp [intOf]; omega
    · have e : k = rs.length := by omega
      subst e
      rw [List.take_length] at hbd
      go_wp2_with (go_at_call 50; refine (Tryd.Builder_String_any w.heap.size w.heap.size (plainL rs) _ hbd.out hb.size).mono ?_; rintro e w2 ⟨rfl, hb2⟩)
      go_ret
      exact ⟨rfl, hb.trans hb2⟩
end Go.Proofs.YthbnnlhkcaomlaaDoor.Gl
