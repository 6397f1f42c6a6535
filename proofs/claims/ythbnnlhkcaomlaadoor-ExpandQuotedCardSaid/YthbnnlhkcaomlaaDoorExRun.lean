/- The walks of run, all, tell. -/
import Derived.Test.YthbnnlhkcaomlaaDoorExFld
namespace Go.Proofs.YthbnnlhkcaomlaaDoor.Ex
open Go.RowKit Go.Shelf Go.Proofs.YthbnnlhkcaomlaaDoorW.PrintWords Go.Proofs.YthbnnlhkcaomlaaDoor.Gl

/-- A part by value: of its word and its command the values alone. -/
def partV (p : PartT) (wv bv : Value) : Value := .agg #[.int .i64 p.kind, .string p.text, .string p.op, .bool p.quoted, wv, bv]
def paramV (x : ParamT) (wv bv av : Value) : Value := .agg #[.int .i64 x.p.kind, .string x.p.text, .string x.p.op, .bool x.p.quoted, wv, bv, .string x.value, .bool x.set, av, .bool x.missing]
/-- A slice or a pointer: one cell. -/
def OneV (v : Value) : Prop := (∃ A n c, v = .slice A n c) ∨ ∃ a, v = .pointer a

set_option maxHeartbeats 1600000 in
set_option maxRecDepth 100000 in
theorem run_walk (p : PartT) (A : Option Addr) (n c : Nat) (ba : Option Addr) (s : B) (w : World) :
    Calls Tryd.prog 33 #[partV p (.slice A n c) (.pointer ba), .string s] w fun en w' => en = .returned (.agg #[.string s, .bool p.quoted, .bool (!p.quoted)]) ∧ Below w.heap.size w w' := by
  unfold partV
  go_enter Tryd.func33, Tryd.ntmps33
  go_wp2
  exact bodyPost_ret (v := .agg #[.string s, .bool p.quoted, .bool (!p.quoted)]) (by simp [results, Tryd.results33, go_sem]) rfl ⟨rfl, ((Below.refl _ _).alloc (Nat.le_refl _) _).alloc (by simp) _⟩

theorem ne_lit {a : B} {l : Array UInt8} (h : a ≠ ⟨l⟩) : ¬ a.toList = l.toList := fun e => h (by
  rw [Lib.toList_data] at e
  exact ByteArray.ext (Array.toList_inj.1 e))

set_option maxHeartbeats 1600000 in
set_option maxRecDepth 100000 in
theorem all_walk (t : B) (w : World) : Calls Tryd.prog 35 #[.string t] w fun en w' => en = .returned (.bool (allP t)) ∧ w = w' := by
  by_cases h1 : t = ⟨#[64]⟩
  · subst h1
    go_enter Tryd.func35, Tryd.ntmps35
    go_wp2
    go_ret
    exact ⟨rfl, rfl⟩
  · by_cases h2 : t = ⟨#[42]⟩
    · subst h2
      go_enter Tryd.func35, Tryd.ntmps35
      go_wp2
      go_ret
      exact ⟨rfl, rfl⟩
    · have e : allP t = false := by simp [allP, h1, h2]
      have n1 : ¬ t.toList = [64] := ne_lit h1
      have n2 : ¬ t.toList = [42] := ne_lit h2
      have m1 : (t.toList == [64]) = false := by simpa using n1
      have m2 : (t.toList == [42]) = false := by simpa using n2
      rw [e]
      clear h1 h2 e
      go_enter Tryd.func35, Tryd.ntmps35
      go_wp2
      go_ret
      exact ⟨rfl, rfl⟩

theorem below_3 (w : World) (o p q : Obj) : Below w.heap.size w (((w.alloc o).alloc p).alloc q) := (below_aa w o p).alloc (by simp; omega) _

set_option maxHeartbeats 1600000 in
set_option maxRecDepth 100000 in
theorem tell_walk (S : Nat → Prop) (f g : Nat) (deep : Int) (x : ParamT) (A : Option Addr) (n c : Nat) (ba : Option Addr) (A2 : Option Addr) (n2 c2 : Nat) (y y' : FT) (w : World) (H : FldAt S w f g deep y) (h : putP y (runP x.p x.value) = some y') :
    Calls Tryd.prog 38 #[.pointer (some ⟨f, 0, none⟩), paramV x (.slice A n c) (.pointer ba) (.slice A2 n2 c2)] w fun en w' => en = .returned (.int .i64 0) ∧ FldPost S w f g deep y' w' := by
  unfold paramV
  have HH := Lib.hid H
  have HP := Lib.hid h
  clear H h
  go_enter Tryd.func38, Tryd.ntmps38
  go_wp2_with (first
    | (go_at_call 33; refine (run_walk x.p A n c ba x.value _).mono ?_; rintro e w1 ⟨rfl, hb1⟩; have HB1 := Lib.hid hb1; clear hb1)
    | (go_at_call 24; refine (put_walk S f g deep y y' (runP x.p x.value) _ (FldAt.below HH.out ((below_a _ _).trans (HB1.out.mono (by simp)))) HP.out).mono ?_; rintro e w2 ⟨rfl, hb2⟩; have HB2 := Lib.hid hb2; clear hb2))
  go_ret
  obtain ⟨S', h1, h2, h3⟩ := HB2.out
  refine ⟨rfl, S', h1, (Mod.below ((below_a _ _).trans (HB1.out.mono (by simp)))).trans h2 (fun _ _ h => h), fun k hk => h3 k (Nat.lt_of_lt_of_le hk ((below_a _ _).trans (HB1.out.mono (by simp))).size)⟩

end Go.Proofs.YthbnnlhkcaomlaaDoor.Ex
