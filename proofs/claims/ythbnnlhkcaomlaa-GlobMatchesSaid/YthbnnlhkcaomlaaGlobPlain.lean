/- The walk of glob.Plain. -/
import Derived.Test.YthbnnlhkcaomlaaGlobMagic
namespace Go.Proofs.Ythbnnlhkcaomlaa.Gl
open Go.RowKit Go.Shelf Go.Proofs.YthbnnlhkcaomlaaW.PrintWords

def wsRen : Go.Shelf.Ren := ⟨fun | 166 => 36 | 240 => 49 | 276 => 57 | n => n, fun | 70 => 55 | 3 => 3 | 0 => 0 | 4 => 4 | 9 => 9 | 20 => 20 | 72 => 57 | 37 => 24 | 164 => 89 | 75 => 59 | 80 => 62 | 5 => 5 | n => n, fun | n => n⟩
theorem wsLays : Go.Proofs.Lays.n166 Try.prog wsRen := {
  mixed := by kernel_rfl
  f166 := Try.func36.trans (congrArg some (by kernel_rfl))
  f240 := Try.func49.trans (congrArg some (by kernel_rfl))
  f276 := Try.func57.trans (congrArg some (by kernel_rfl))
  t0 := Try.underlying0
  a0 := Try.isAgg0
  z0 := Try.sizeOf0
  v0 := Try.zeroValue0
  t3 := Try.underlying3
  a3 := Try.isAgg3
  z3 := Try.sizeOf3
  v3 := Try.zeroValue3
  t4 := Try.underlying4
  a4 := Try.isAgg4
  z4 := Try.sizeOf4
  v4 := Try.zeroValue4
  t9 := Try.underlying9
  a9 := Try.isAgg9
  z9 := Try.sizeOf9
  v9 := Try.zeroValue9
  t20 := Try.underlying20
  a20 := Try.isAgg20
  z20 := Try.sizeOf20
  v20 := Try.zeroValue20
  t37 := Try.underlying24
  a37 := Try.isAgg24
  z37 := Try.sizeOf24
  v37 := Try.zeroValue24
  t70 := Try.underlying55
  a70 := Try.isAgg55
  z70 := Try.sizeOf55
  v70 := Try.zeroValue55
  t72 := Try.underlying57
  a72 := Try.isAgg57
  z72 := Try.sizeOf57
  v72 := Try.zeroValue57
  t75 := Try.underlying59
  a75 := Try.isAgg59
  z75 := Try.sizeOf59
  v75 := Try.zeroValue59
  t164 := Try.underlying89
  a164 := Try.isAgg89
  z164 := Try.sizeOf89
  v164 := Try.zeroValue89 }
theorem wsExtra : Builder.Extra Try.prog wsRen := {
  sizeBuilder := by kernel_rfl
  liesBuilder := by kernel_rfl
  t5 := Try.underlying5
  a5 := Try.isAgg5
  z5 := Try.sizeOf5
  v5 := Try.zeroValue5
  infoByte := by kernel_rfl
  cellsByte := by kernel_rfl
  sizeByte := by kernel_rfl
  neB5 := by decide }

theorem writes (B b : Nat) (bs : List Value) (s : ByteArray) (w : World) (h : Lib.IsBuilder 57 5 B b bs w) (hlen : bs.length + s.size ≤ 140737488355328) (hBw : B ≤ w.heap.size) :
    Calls Try.prog 36 #[.pointer (some ⟨b, 0, none⟩), .string s] w fun e w' => e = .returned (.tuple #[.int .i64 s.size, .nilIface]) ∧ (Lib.BuilderAt 57 5 B b (.pointer (some ⟨b, 0, none⟩)) (bs ++ Lib.strCells s) w' ∧ Below B w w') := Any.Builder_WriteString wsLays wsExtra B b bs s w h hlen hBw

theorem bld_below {T e : TypeId} {B b : Nat} {bs : List Value} {W W' : World} (h : Lib.IsBuilder T e B b bs W) (hb : Below W.heap.size W W') : Lib.IsBuilder T e B b bs W' := by
  rcases h with ⟨h1, v, h2, h3, h4⟩ | ⟨h1, v, h2, h3, h4⟩
  · exact .inl ⟨h1, v, (hb.block b (lt_of_get h2)).trans h2, pw_own_below h3 hb, h4⟩
  · exact .inr ⟨h1, v, (hb.block b (lt_of_get h2)).trans h2, pw_own_below h3 hb, h4⟩

def plainL (rs : List Rn) : List UInt8 := rs.flatMap fun r => r.t.data.toList
theorem plainL_take_succ {l : List Rn} {k : Nat} {r : Rn} (h : l[k]? = some r) : plainL (l.take (k + 1)) = plainL (l.take k) ++ r.t.data.toList := by
  rw [List.take_add_one, h]; simp [plainL]
theorem plainL_length (l : List Rn) : (plainL l).length = (charsOf l).length := by
  induction l with
  | nil => rfl
  | cons r l ih => simp [plainL, charsOf, chOf] at ih ⊢
theorem charsOf_take_le (l : List Rn) (k : Nat) : (charsOf (l.take k)).length ≤ (charsOf l).length := (List.take_prefix_charsOf l k).length_le

set_option maxRecDepth 100000 in
set_option maxHeartbeats 1600000 in
theorem plain_walk (rs : List Rn) (A : Option Addr) (cap : Nat) (w : World)
    (hA : ∀ ad, A = some ad → 0 < rs.length → ad.block < w.heap.size) (hR : ReadsRn w A rs) (hts : (charsOf rs).length ≤ 1099511627776) :
    Calls Try.prog 21 #[.slice A rs.length cap] w fun e w' => e = .returned (.string ⟨(plainL rs).toArray⟩) ∧ Below w.heap.size w w' := by
  have hm := hR.2.1
  go_enter Try.func21, Try.ntmps21
  go_wp2
  have hB0 : Lib.IsBuilder 57 5 w.heap.size w.heap.size (Lib.byteCells (plainL (rs.take 0))) (w.alloc (.cells #[.pointer none, .slice none 0 0] 57)) :=
    .inl ⟨Nat.le_refl _, .slice none 0 0, heap_alloc_new w _, World.ownsRow_nil _ _ _ _, by simp [Value.ownBlock]⟩
  have HB0 := Lib.hid hB0
  clear hB0
  go_loopw [8] (fun i wr => ∃ k : Nat, k ≤ rs.length ∧ i = .int .i64 k ∧ Hid (Lib.IsBuilder 57 5 w.heap.size w.heap.size (Lib.byteCells (plainL (rs.take k))) wr) ∧ Below w.heap.size w wr) (fun i _ => rs.length - (intOf i).toNat)
  case atStart => exact ⟨0, Nat.zero_le _, rfl, HB0.out, (Below.refl _ _).alloc (Nat.le_refl _) _⟩
  case round =>
    obtain ⟨k, hk, rfl, hbd, hb⟩ := hrel
    by_cases hlt : k < rs.length
    · obtain ⟨r, hr⟩ : ∃ r, rs[k]? = some r := ⟨_, List.getElem?_eq_getElem hlt⟩
      obtain ⟨ad, rfl, c1, c2, c3⟩ := (hR.below_ hA hb).at_ hr
      have hlen := charsOf_take_le rs (k + 1)
      rw [charsOf_take_succ hr, List.length_append] at hlen
      have hlr : (chOf r).length = r.t.size := by simp [chOf]
      have HR := Lib.hid hr
      clear hr
      obtain ⟨t, q, s⟩ := r
      dsimp only at c1 c2 c3 hlr
      go_wp2_with (go_at_call 36; refine (writes w.heap.size w.heap.size _ t _ (bld_below hbd.out ((Below.refl _ _).alloc (Nat.le_refl _) _)) (by rw [Lib.byteCells_length, plainL_length]; omega) (by simp; exact Nat.le_succ_of_le hb.size)).mono ?_; rintro e w2 ⟨rfl, hbd2, hb2⟩)
      go_roundw
      case rel =>
        refine ⟨k + 1, by omega, by go_num, ?_, (hb.alloc hb.size _).trans hb2⟩
        rw [plainL_take_succ HR.out, Lib.byteCells_append]
        exact .inr hbd2
      case measure => simp [intOf]; omega
    · have e : k = rs.length := by omega
      subst e
      rw [List.take_length] at hbd
      go_wp2_with (go_at_call 37; refine (Try.Builder_String_any w.heap.size w.heap.size (plainL rs) _ hbd.out hb.size).mono ?_; rintro e w2 ⟨rfl, hb2⟩)
      go_ret
      exact ⟨rfl, hb.trans hb2⟩
end Go.Proofs.Ythbnnlhkcaomlaa.Gl
