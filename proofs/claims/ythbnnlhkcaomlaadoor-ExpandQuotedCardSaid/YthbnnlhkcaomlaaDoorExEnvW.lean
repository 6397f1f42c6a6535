/- The walks of the environment's methods. -/
import Derived.Test.YthbnnlhkcaomlaaDoorExEnv
import Derived.Deep.RegionLaw
namespace Go.Proofs.YthbnnlhkcaomlaaDoor.Ex
open Go.RowKit Go.Shelf Go.Proofs.YthbnnlhkcaomlaaDoorW.PrintWords Go.Proofs.YthbnnlhkcaomlaaDoor.Gl

theorem seeE_some {e e' : EnvT} {s : B} (h : seeE e s = some e') : e.seen.length < big ∧ e' = { e with seen := e.seen ++ [s] } := by
  unfold seeE at h
  split at h
  · rename_i hl
    cases h
    exact ⟨hl, rfl⟩
  · cases h

theorem EnvIn.at_ {E : Nat → Prop} {w : World} {g : Nat} {e : EnvT} {lv : Value} {A : Option Addr} {c : Nat} {sv : Value} (h : EnvIn E w g e lv A c sv) : EnvAt E w g e := ⟨lv, A, c, sv, h⟩

set_option maxHeartbeats 800000 in
theorem status_walk (E : Nat → Prop) (g : Nat) (e e' : EnvT) (w : World) (H : EnvAt E w g e) (h : statusE e = some e') :
    Calls Tryd.prog 103 #[.pointer (some ⟨g, 0, none⟩)] w fun en w' => en = .returned (.int .i64 e.status) ∧ EnvPost E w g e' w' := by
  obtain ⟨hlen, rfl⟩ := seeE_some h
  obtain ⟨lv, A, c, sv, H⟩ := H
  obtain ⟨c0, c1, c2, c3, f0, f3, lt⟩ := cells_of H.hb
  have HH := Lib.hid H
  have HL := Lib.hid hlen
  clear H h hlen
  go_enter Tryd.func103, Tryd.ntmps103
  go_wp2_with (at_builtin; refine ap_str rfl (.tmp 7) (.tmp 8) rfl sv e.seen _ rfl rfl (by simp) HH.out.vS HL.out ?_; intro A1 n1 c1 w1 hv hg hat; have HP := Lib.hid (env_seen HH.out hg hv hat); obtain ⟨d0, d1, d2, d3, k0, k3, lt1⟩ := env_grown HH.out hg (seen_ne HH.out); clear hv hg hat)
  go_ret
  obtain ⟨E', h1, h2, h3⟩ := HP.out
  exact ⟨rfl, E', h1.at_, h2, h3⟩

set_option maxHeartbeats 1600000 in
set_option maxRecDepth 100000 in
theorem get_walk (E : Nat → Prop) (g : Nat) (e e' : EnvT) (name : B) (r : B × Bool) (w : World) (H : EnvAt E w g e) (h : getE e name = some (r, e')) :
    Calls Tryd.prog 101 #[.pointer (some ⟨g, 0, none⟩), .string name] w fun en w' => en = .returned (.tuple #[.string r.1, .bool r.2]) ∧ EnvPost E w g e' w' := by
  unfold getE at h
  split at h
  · rename_i hsz
    rw [Option.map_eq_some_iff] at h
    obtain ⟨e1, hse, h⟩ := h
    obtain ⟨hlen, rfl⟩ := seeE_some hse
    obtain ⟨lv, A, c, sv, H⟩ := H
    obtain ⟨La, Lc, rfl, hLC⟩ := H.rL.reads
    obtain ⟨c0, c1, c2, c3, f0, f3, lt⟩ := cells_of H.hb
    have HH := Lib.hid H
    have HL := Lib.hid hlen
    have HR := Lib.hid h
    have hs0 : name.size ≤ 1099511627776 := hsz
    have s1 : (9223372036854775807 < 4 + name.size) = False := eq_false (by omega)
    have hm := hLC.2.1
    clear H h hlen hse hsz hLC
    go_enter Tryd.func101, Tryd.ntmps101
    go_wp2_with (at_builtin; refine ap_str rfl (.tmp 11) (.tmp 14) rfl sv e.seen _ rfl rfl (by simp) HH.out.vS HL.out ?_; intro A1 n1 c1 w1 hv hg hat; have HP := Lib.hid (env_seen HH.out hg hv hat); obtain ⟨d0, d1, d2, d3, k0, k3, lt1⟩ := env_grown HH.out hg (seen_ne HH.out); clear hv hg hat)
    obtain ⟨E', h1, h2, h3⟩ := HP.out
    clear HP d0 d1 d2 d3 k0 k3 lt1
    generalize w1.setCell ⟨g, 3, none⟩ (.slice A1 n1 c1) = w2 at h1 h2 ⊢
    obtain ⟨q0, q1, q2, q3, p0, p3, lt2⟩ := cells_of h1.hb
    have H1 := Lib.hid h1
    have H2 := Lib.hid (And.intro h2 h3)
    clear h1 h2 h3
    go_loop [6] (fun i => ∃ k : Nat, k ≤ e.L.length ∧ i = .int .i64 ((k : Int) - 1) ∧ Hid (lookV e.L name e.L.length = lookV e.L name k)) (fun i => (intOf i + 1).toNat)
    case atStart => exact ⟨e.L.length, Nat.le_refl _, rfl, rfl⟩
    case round =>
      obtain ⟨k, hk, rfl, hlook⟩ := hrel
      rcases k with _ | j
      · go_wp2
        go_ret2
        have hr := HR.out
        rw [hlook.out] at hr
        simp only [lookV] at hr
        cases hr
        exact ⟨rfl, E', H1.out.at_, H2.out.1, H2.out.2⟩
      · obtain ⟨p, hp⟩ : ∃ p, e.L[j]? = some p := ⟨_, List.getElem?_eq_getElem hk⟩
        obtain ⟨La', Lc', eL, hLC⟩ := H1.out.rL.reads
        cases eL
        obtain ⟨ad, rfl, x1, x2⟩ := var_at hLC hp
        clear hLC
        have hstep : lookV e.L name (j + 1) = if p.1 = name then some p.2 else lookV e.L name j := by
          rw [lookV, List.getD_eq_getElem?_getD, hp]; rfl
        obtain ⟨nm, vl⟩ := p
        have ej : (((j + 1 : Nat) : Int) - 1) = (j : Int) := by omega
        rw [ej]
        have hjl : j < e.L.length := hk
        have HS := Lib.hid hstep
        clear hstep hp ej hk
        by_cases hn : nm = name
        · subst hn
          have HS' := Lib.hid (HS.out.trans (if_pos rfl))
          clear HS
          go_wp2
          go_ret2
          have hr := HR.out
          rw [hlook.out, HS'.out] at hr
          cases hr
          exact ⟨rfl, E', H1.out.at_, H2.out.1, H2.out.2⟩
        · have t1 := str_ne hn
          have t2 : (nm.toList == name.toList) = false := by simpa using t1
          have HN := Lib.hid hn
          clear hn
          go_wp2
          go_round
          case rel => exact ⟨j, by omega, rfl, by unfold Hid; rw [hlook.out, HS.out, if_neg HN.out]⟩
          case measure => first | (simp [intOf]; done) | (simp [intOf]; omega)
  · cases h

set_option maxHeartbeats 1600000 in
set_option maxRecDepth 100000 in
theorem set_walk (E : Nat → Prop) (g : Nat) (e e' : EnvT) (name value : B) (r : Int) (w : World) (H : EnvAt E w g e) (h : setE e name value = some (r, e')) :
    Calls Tryd.prog 102 #[.pointer (some ⟨g, 0, none⟩), .string name, .string value] w fun en w' => en = .returned (.int .i64 r) ∧ EnvPost E w g e' w' := by
  unfold setE at h
  split at h
  · rename_i hsz
    rw [Option.bind_eq_some_iff] at h
    obtain ⟨e1, hse, h⟩ := h
    obtain ⟨hlen, rfl⟩ := seeE_some hse
    obtain ⟨lv, A, c, sv, H⟩ := H
    obtain ⟨c0, c1, c2, c3, f0, f3, lt⟩ := cells_of H.hb
    have HH := Lib.hid H
    have HL := Lib.hid hlen
    have hs0 : name.size ≤ 1099511627776 := hsz.1
    have hs1 : value.size ≤ 1099511627776 := hsz.2
    have s1 : (9223372036854775807 < 4 + name.size) = False := eq_false (by omega)
    have s2 : (9223372036854775807 < 4 + name.size + 1) = False := eq_false (by omega)
    have s3 : (9223372036854775807 < 4 + name.size + 1 + value.size) = False := eq_false (by omega)
    clear H hlen hse hsz
    by_cases hv : value.size > 90
    · rw [if_pos hv] at h
      cases h
      have hv1 : decide ((90 : Int) < (value.size : Int)) = true := decide_eq_true (by omega)
      clear hv
      go_enter Tryd.func102, Tryd.ntmps102
      go_wp2_with (at_builtin; refine ap_str rfl (.tmp 11) (.tmp 17) rfl sv e.seen _ rfl rfl (by simp) HH.out.vS HL.out ?_; intro A1 n1 c1 w1 hv hg hat; have HP := Lib.hid (env_seen HH.out hg hv hat); obtain ⟨d0, d1, d2, d3, k0, k3, lt1⟩ := env_grown HH.out hg (seen_ne HH.out); clear hv hg hat)
      go_ret
      obtain ⟨E', h1, h2, h3⟩ := HP.out
      exact ⟨rfl, E', h1.at_, h2, h3⟩
    · rw [if_neg hv] at h
      split at h
      · rename_i hl2
        cases h
        have hv1 : decide ((90 : Int) < (value.size : Int)) = false := decide_eq_false (by omega)
        have HL2 := Lib.hid hl2
        clear hv hl2
        rcases HH.out.rL with hr | ⟨b, rfl, hr⟩
        · have hrE := Lib.hid hr
          clear hr
          go_enter Tryd.func102, Tryd.ntmps102
          go_wp2_with (first
            | (at_builtin; refine ap_str rfl (.tmp 11) (.tmp 17) rfl sv e.seen _ rfl rfl (by simp) HH.out.vS HL.out ?_; intro A1 n1 c1 w1 hv hg hat; have HP := Lib.hid (env_seen' HH.out hg hv hat); have HOL := Lib.hid (seen_own (v1 := .slice A1 n1 c1) HH.out hg hrE.out.1); obtain ⟨d0, d1, d2, d3, k0, k3, lt1⟩ := env_grown HH.out hg (seen_ne HH.out); clear hv hg hat)
            | (at_builtin; obtain ⟨h1, h2, h3⟩ := HP.out; refine ap_var rfl (.tmp 29) (.tmp 33) rfl lv e.L (name, value) rfl rfl (by simp) HOL.out HL2.out ?_; intro A2 n2 c2 w2 hv hg hat; have HP2 := Lib.hid (env_var h1 (row := lv.ownBlock) (fun k hk => ⟨hk, .inr (.inl ⟨hk, hrE.out.2 k hk⟩)⟩) hg hv hat); have HM := Lib.hid (And.intro h2 h3); obtain ⟨d0, d1, d2, d3, k0, k3, lt1⟩ := env_grown h1 hg (vars_ne h1); clear hv hg hat h1 h2 h3))
          go_ret
          obtain ⟨E2, h1, h2, h3⟩ := HP2.out
          exact ⟨rfl, E2, h1.at_, HM.out.1.trans h2 (fun i hi he => HM.out.2 i hi he), fun k hk he => HM.out.2 k hk (h3 k (Nat.lt_of_lt_of_le hk HM.out.1.size) he)⟩
        · have hrE := Lib.hid hr
          clear hr
          go_enter Tryd.func102, Tryd.ntmps102
          go_wp2_with (first
            | (at_builtin; refine ap_str rfl (.tmp 11) (.tmp 17) rfl sv e.seen _ rfl rfl (by simp) HH.out.vS HL.out ?_; intro A1 n1 c1 w1 hv hg hat; have HP := Lib.hid (env_seen' HH.out hg hv hat); have HOL := Lib.hid (seen_full (v1 := .slice A1 n1 c1) HH.out hg hrE.out.1 hrE.out.2.2); obtain ⟨d0, d1, d2, d3, k0, k3, lt1⟩ := env_grown HH.out hg (seen_ne HH.out); clear hv hg hat)
            | (at_builtin; obtain ⟨h1, h2, h3⟩ := HP.out; refine ap_var_full rfl (.tmp 29) (.tmp 33) rfl b e.L (name, value) rfl rfl (by simp) HOL.out HL2.out ?_; intro A2 n2 c2 w2 hv hg hat; have HP2 := Lib.hid (env_var h1 (row := none) (fun _ e => by cases e) hg hv (.inr hat)); have HM := Lib.hid (And.intro h2 h3); obtain ⟨d0, d1, d2, d3, k0, k3, lt1⟩ := env_grown h1 hg (by simp); clear hv hg hat h1 h2 h3))
          go_ret
          obtain ⟨E2, h1, h2, h3⟩ := HP2.out
          exact ⟨rfl, E2, h1.at_, HM.out.1.trans h2 (fun i hi he => HM.out.2 i hi he), fun k hk he => HM.out.2 k hk (h3 k (Nat.lt_of_lt_of_le hk HM.out.1.size) he)⟩
      · cases h
  · cases h

/-- Behind Args: a copy of the arguments. -/
def ArgsPost (E : Nat → Prop) (w : World) (g : Nat) (args : List B) (e' : EnvT) (en : Ending) (w' : World) : Prop :=
  ∃ b n c E', en = .returned (.slice (some ⟨b, 0, none⟩) n c) ∧ n = args.length ∧ n ≤ c ∧ Kd.string.C w' (some ⟨b, 0, none⟩) args.length args ∧ (w.heap.size ≤ b ∧ ¬ E' b ∧ Ty w' b 9) ∧ EnvAt E' w' g e' ∧ Mod E w w' ∧ ∀ k, k < w.heap.size → E' k → E k
theorem args_post {E E' : Nat → Prop} {w w2 w3 : World} {g : Nat} {e' : EnvT} {lv : Value} {A A1 : Option Addr} {c n1 c1 : Nat} {sv : Value} {l : List B} (h1 : EnvIn E' w2 g e' lv A c sv) (h2 : Mod E w w2) (h3 : ∀ k, k < w.heap.size → E' k → E k)
    (hv : Own Kd.string 9 w3 (.slice A1 n1 c1) l) (hb : Below w2.heap.size w2 w3) (hat : ∃ b, (Value.slice A1 n1 c1).ownBlock = some b ∧ w2.heap.size ≤ b) :
    ArgsPost E w g l e' (.returned (.slice A1 n1 c1)) w3 := by
  obtain ⟨e1, e2, e3⟩ := Kd.R_reads' hv
  obtain ⟨b, hbk, hle⟩ := hat
  have hb' : ∀ k, E' k → k < w2.heap.size := fun k hk => by rcases h1.ty k hk with h | h | h <;> exact h.lt
  have hA : A1 = some ⟨b, 0, none⟩ := by
    obtain ⟨inner, ho⟩ := Kd.R_own hv
    rcases ho.2 with ⟨h, _⟩ | ⟨g', cap, cur, h, _⟩
    · injection h with h _ _
      subst h
      simp [Value.ownBlock] at hbk
    · injection h with h _ _
      subst h
      simp only [Value.ownBlock, Option.some.injEq] at hbk
      rw [hbk]
  subst hA
  refine ⟨b, n1, c1, E', rfl, e1, e2, e3, ⟨Nat.le_trans h2.size hle, fun h => ?_, own_ty hv rfl⟩, (EnvAt.below h1.at_ hb), h2.trans (S' := fun _ => False) (Mod.below hb) (fun _ _ e => e.elim), h3⟩
  have := hb' _ h
  omega

set_option maxHeartbeats 1600000 in
set_option maxRecDepth 100000 in
theorem args_walk (E : Nat → Prop) (g : Nat) (e e' : EnvT) (w : World) (H : EnvAt E w g e) (h : argsE e = some e') :
    Calls Tryd.prog 100 #[.pointer (some ⟨g, 0, none⟩)] w fun en w' => ArgsPost E w g e.args e' en w' := by
  obtain ⟨hlen, rfl⟩ := seeE_some h
  obtain ⟨lv, A, c, sv, H⟩ := H
  obtain ⟨c0, c1, c2, c3, f0, f3, lt⟩ := cells_of H.hb
  have HH := Lib.hid H
  have HL := Lib.hid hlen
  clear H h hlen
  go_enter Tryd.func100, Tryd.ntmps100
  go_wp2_with (first
    | (at_builtin; refine ap_str rfl (.tmp 7) (.tmp 8) rfl sv e.seen _ rfl rfl (by simp) HH.out.vS HL.out ?_; intro A1 n1 c1 w1 hv hg hat; have HP := Lib.hid (env_seen HH.out hg hv hat); obtain ⟨d0, d1, d2, d3, k0, k3, lt1⟩ := env_grown HH.out hg (seen_ne HH.out); clear hv hg hat)
    | (at_builtin; obtain ⟨E', h1, h2, h3⟩ := HP.out; refine ap_strs rfl (.tmp 12) (.tmp 17) rfl (.slice (some ⟨w1.heap.size, 0, none⟩) 0 0) [] e.args A e.args.length c rfl rfl (own_empty Kd.string 9 _ (by simp)) (Kd.C_below h1.hA ((Below.refl _ _).alloc (Nat.le_refl _) _)) (by have := HH.out.len; unfold big at this ⊢; simp; omega) ?_; intro A2 n2 c2 w2 hv hg hat; have HP2 := Lib.hid (args_post h1 h2 h3 hv ((((Below.refl _ _).alloc (Nat.le_refl _) _)).grown hg (by simp) (by intro k hk; simp [Value.ownBlock] at hk; subst hk; simp)) (by rcases hat with h | h; exact ⟨_, h, by simp⟩; obtain ⟨b, h, hb⟩ := h; exact ⟨b, h, Nat.le_trans (by simp) hb⟩)); clear hv hg hat h1 h2 h3))
  go_ret
  exact HP2.out

end Go.Proofs.YthbnnlhkcaomlaaDoor.Ex
