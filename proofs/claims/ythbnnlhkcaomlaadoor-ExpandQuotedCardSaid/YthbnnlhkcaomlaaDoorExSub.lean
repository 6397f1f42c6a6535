/- The walk of Subst. -/
import Derived.Test.YthbnnlhkcaomlaaDoorExEnvW
namespace Go.Proofs.YthbnnlhkcaomlaaDoor.Ex
open Go.RowKit Go.Shelf Go.Proofs.YthbnnlhkcaomlaaDoorW.PrintWords Go.Proofs.YthbnnlhkcaomlaaDoor.Gl

/-- A command, as far as the environment reads it; P: the blocks that may be read. -/
def BodyAt (P : Nat → Prop) (w : World) (b : Option (B × Bool)) (v : Value) : Prop := match b with
  | none => v = .pointer none
  | some (n, no) => ∃ ad : Addr, v = .pointer (some ad) ∧ w.cell? ⟨ad.block, ad.off + 1, none⟩ = some (.string n) ∧ w.cell? ⟨ad.block, ad.off + 2, none⟩ = some (.bool no) ∧ P ad.block
theorem below_a (w : World) (o : Obj) : Below w.heap.size w (w.alloc o) := (Below.refl _ _).alloc (Nat.le_refl _) _
theorem below_ad (w : World) (o : Obj) : Below w.heap.size w (w.alloc o).drew := ((Below.refl _ _).alloc (Nat.le_refl _) _).drew
theorem EnvIn.below {E : Nat → Prop} {w w' : World} {g : Nat} {e : EnvT} {lv : Value} {A : Option Addr} {c : Nat} {sv : Value} (h : EnvIn E w g e lv A c sv) (hb : Below w.heap.size w w') : EnvIn E w' g e lv A c sv :=
  h.mod (S := fun _ => False) (Mod.below hb) (fun _ e => e.elim) (fun _ _ _ e => e) (fun _ e => e.elim) (fun e => e)
theorem seen_from {E : Nat → Prop} {w W w1 : World} {g : Nat} {e : EnvT} {lv : Value} {A : Option Addr} {c : Nat} {sv v1 : Value} {s : B} (H : EnvIn E w g e lv A c sv) (hb : Below w.heap.size w W) (hg : W.grownBy w1 sv.ownBlock) (hv : Own Kd.string 9 w1 v1 (e.seen ++ [s])) (hat : v1.ownBlock = sv.ownBlock ∨ ∃ b, v1.ownBlock = some b ∧ W.heap.size ≤ b) :
    ∃ E', EnvIn E' (w1.setCell ⟨g, 3, none⟩ v1) g { e with seen := e.seen ++ [s] } lv A c v1 ∧ Mod E w (w1.setCell ⟨g, 3, none⟩ v1) ∧ ∀ k, k < w.heap.size → E' k → E k := by
  obtain ⟨E', h1, h2, h3⟩ := env_seen (H.below hb) hg hv hat
  exact ⟨E', h1, (Mod.below hb).trans h2 (fun _ _ h => h), fun k hk => h3 k (Nat.lt_of_lt_of_le hk hb.size)⟩

set_option maxHeartbeats 1600000 in
set_option maxRecDepth 100000 in
theorem subst_walk (E : Nat → Prop) (g : Nat) (e e' : EnvT) (b : Option (B × Bool)) (v : Value) (r : B × Int) (w : World) (H : EnvAt E w g e) {P : Nat → Prop} (hP : ∀ k, P k → ¬ E k) (hv : BodyAt P w b v) (h : substE e b = some (r, e')) :
    Calls Tryd.prog 104 #[.pointer (some ⟨g, 0, none⟩), v] w fun en w' => en = .returned (.tuple #[.string r.1, .int .i64 r.2]) ∧ EnvPost E w g e' w' := by
  obtain ⟨lv, A, c, sv, H⟩ := H
  obtain ⟨c0, c1, c2, c3, f0, f3, lt⟩ := cells_of H.hb
  rcases b with _ | ⟨n, no⟩
  · unfold substE at h
    rw [Option.map_eq_some_iff] at h
    obtain ⟨e1, hse, h⟩ := h
    obtain ⟨hlen, rfl⟩ := seeE_some hse
    cases h
    obtain rfl : v = .pointer none := hv
    have HH := Lib.hid H
    have HL := Lib.hid hlen
    clear H hlen hse
    go_enter Tryd.func104, Tryd.ntmps104
    go_wp2_with (at_builtin; refine ap_str rfl (.tmp 12) (.tmp 13) rfl sv e.seen _ rfl rfl (by simp) HH.out.vS HL.out ?_; intro A1 n1 c1 w1 hv hg hat; have HP := Lib.hid (env_seen HH.out hg hv hat); obtain ⟨d0, d1, d2, d3, k0, k3, lt1⟩ := env_grown HH.out hg (seen_ne HH.out); clear hv hg hat)
    go_ret2
    obtain ⟨E', h1, h2, h3⟩ := HP.out
    exact ⟨rfl, E', h1.at_, h2, h3⟩
  · obtain ⟨ad, rfl, x1, x2, hp⟩ := hv
    have hp := hP _ hp
    have h : (if n.size ≤ bigT then (seeE e ((⟨#[115, 97, 121, 32]⟩ : B) ++ n)).map fun e' => (((if no then (⟨#[]⟩, 14) else (n, 0)) : B × Int), e') else none) = some (r, e') := h
    split at h
    · rename_i hsz
      rw [Option.map_eq_some_iff] at h
      obtain ⟨e1, hse, h⟩ := h
      obtain ⟨hlen, rfl⟩ := seeE_some hse
      cases h
      have HH := Lib.hid H
      have HL := Lib.hid hlen
      have hs0 : n.size ≤ 1099511627776 := hsz
      have s1 : (9223372036854775807 < 4 + n.size) = False := eq_false (by omega)
      have HN := Lib.hid hp
      have hne : ¬ ad.block = g := fun e => hp (e ▸ H.own)
      clear hp H hlen hse hsz
      cases no with
      | true =>
        go_enter Tryd.func104, Tryd.ntmps104
        go_wp2
        go_region_law (first
          | (refine ap_str_step rfl (.tmp 21) (.tmp 27) rfl sv e.seen _ w.heap.size rfl rfl (HH.out.below (by first | exact below_ad _ _ | exact below_a _ _)).vS (by simp; rfl) HL.out ?_; intro A1 n1 c1 w1 hv hg hat; have HP := Lib.hid (seen_from HH.out (by first | exact below_ad _ _ | exact below_a _ _) hg hv hat)
             obtain ⟨d0, d1, d2, d3, k0, k3, lt1⟩ := env_grown (HH.out.below (by first | exact below_ad _ _ | exact below_a _ _)) hg (seen_ne HH.out)
             have y1 := seen_cell (HH.out.below (by first | exact below_ad _ _ | exact below_a _ _)) (by first | exact below_ad _ _ | exact below_a _ _) hg x1 HN.out; have y2 := seen_cell (HH.out.below (by first | exact below_ad _ _ | exact below_a _ _)) (by first | exact below_ad _ _ | exact below_a _ _) hg x2 HN.out; clear hv hg hat))
        all_goals
          go_wp2
          go_ret2
          obtain ⟨E', h1, h2, h3⟩ := HP.out
          exact ⟨rfl, E', h1.at_, h2, h3⟩
      | false =>
        go_enter Tryd.func104, Tryd.ntmps104
        go_wp2
        go_region_law (first
          | (refine ap_str_step rfl (.tmp 21) (.tmp 27) rfl sv e.seen _ w.heap.size rfl rfl (HH.out.below (by first | exact below_ad _ _ | exact below_a _ _)).vS (by simp; rfl) HL.out ?_; intro A1 n1 c1 w1 hv hg hat; have HP := Lib.hid (seen_from HH.out (by first | exact below_ad _ _ | exact below_a _ _) hg hv hat)
             obtain ⟨d0, d1, d2, d3, k0, k3, lt1⟩ := env_grown (HH.out.below (by first | exact below_ad _ _ | exact below_a _ _)) hg (seen_ne HH.out)
             have y1 := seen_cell (HH.out.below (by first | exact below_ad _ _ | exact below_a _ _)) (by first | exact below_ad _ _ | exact below_a _ _) hg x1 HN.out; have y2 := seen_cell (HH.out.below (by first | exact below_ad _ _ | exact below_a _ _)) (by first | exact below_ad _ _ | exact below_a _ _) hg x2 HN.out; clear hv hg hat))
        all_goals
          go_wp2
          go_ret2
          obtain ⟨E', h1, h2, h3⟩ := HP.out
          exact ⟨rfl, E', h1.at_, h2, h3⟩
    · cases h

end Go.Proofs.YthbnnlhkcaomlaaDoor.Ex
