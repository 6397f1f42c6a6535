/- The walk of trim's closure. -/
import Derived.Test.YthbnnlhkcaomlaaDoorExAssign
import Derived.Test.YthbnnlhkcaomlaaDoorGlobMatch
namespace Go.Proofs.YthbnnlhkcaomlaaDoor.Ex
set_option linter.unusedVariables false
open Go.RowKit Go.Shelf Go.Proofs.YthbnnlhkcaomlaaDoorW.PrintWords Go.Proofs.YthbnnlhkcaomlaaDoor.Gl

set_option maxHeartbeats 1600000 in
set_option maxRecDepth 100000 in
theorem cut_hash (N Np Ns Nn : Nat) (op s : B) (out : List Rn) (A : Option Addr) (c : Nat) (i : Nat) (w : World) (h1 : w.cell? ⟨N, 2, none⟩ = some (.string op)) (h2 : w.cell? ⟨Ns, 0, none⟩ = some (.string s)) (h3 : w.cell? ⟨Np, 0, none⟩ = some (.slice A out.length c)) (h4 : w.cell? ⟨Nn, 0, none⟩ = some (.int .i64 (s.size : Int)))
    (hA : ∀ ad, A = some ad → 0 < out.length → ad.block < w.heap.size) (hR : ReadsRn w A out) (hts : (charsOf out).length ≤ 1099511627776) (hs : s.size ≤ 1099511627776) (hi : i ≤ s.size) (hop : 0 < op.size) (h0 : op[0]'hop = 35) :
    Calls Tryd.prog 45 #[.int .i64 (i : Int), .pointer (some ⟨N, 0, none⟩), .pointer (some ⟨Ns, 0, none⟩), .pointer (some ⟨Np, 0, none⟩), .pointer (some ⟨Nn, 0, none⟩)] w fun en w' =>
      en = .returned (.tuple #[.string (s.extract i s.size), .bool (matchP (pieces (charsOf out)) (s.extract 0 i).data.toList)]) ∧ Below w.heap.size w w' := by
  have HM := Lib.hid (match_walk out A c (s.extract 0 i) w.drew hA hR hts (by simp; omega))
  obtain ⟨m, hm⟩ : ∃ m, matchP (pieces (charsOf out)) (s.extract 0 i).data.toList = m := ⟨_, rfl⟩
  rw [hm] at HM ⊢
  clear hm
  have hi0 : (0 : Int) ≤ (i : Int) := by omega
  have hi1 : (i : Int) ≤ (s.size : Int) := by omega
  have hb : ((op[0]'hop).toNat : Int) = 35 := by rw [h0]; rfl
  go_enter Tryd.func45, Tryd.ntmps45
  go_wp2
  go_region_held3 (fun w' => w'.cell? ⟨Ns, 0, none⟩ = some (.string s) ∧ w'.cell? ⟨Np, 0, none⟩ = some (.slice A out.length c)) (go_keep) ((go_at_call 46; refine (HM.out).mono ?_; rintro en w1 ⟨rfl, hb1⟩; have q2 := pw_cell_below hb1 (show w.drew.cell? _ = _ from h2); have q3 := pw_cell_below hb1 (show w.drew.cell? _ = _ from h3); have HB := Lib.hid ((Below.refl w.heap.size w).drew.trans hb1); clear hb1))
  go_wp2
  go_ret2
  exact ⟨rfl, HB.out⟩

set_option maxHeartbeats 1600000 in
set_option maxRecDepth 100000 in
theorem cut_pct (N Np Ns Nn : Nat) (op s : B) (out : List Rn) (A : Option Addr) (c : Nat) (i : Nat) (w : World) (h1 : w.cell? ⟨N, 2, none⟩ = some (.string op)) (h2 : w.cell? ⟨Ns, 0, none⟩ = some (.string s)) (h3 : w.cell? ⟨Np, 0, none⟩ = some (.slice A out.length c)) (h4 : w.cell? ⟨Nn, 0, none⟩ = some (.int .i64 (s.size : Int)))
    (hA : ∀ ad, A = some ad → 0 < out.length → ad.block < w.heap.size) (hR : ReadsRn w A out) (hts : (charsOf out).length ≤ 1099511627776) (hs : s.size ≤ 1099511627776) (hi : i ≤ s.size) (hop : 0 < op.size) (h0 : op[0]'hop ≠ 35) :
    Calls Tryd.prog 45 #[.int .i64 (i : Int), .pointer (some ⟨N, 0, none⟩), .pointer (some ⟨Ns, 0, none⟩), .pointer (some ⟨Np, 0, none⟩), .pointer (some ⟨Nn, 0, none⟩)] w fun en w' =>
      en = .returned (.tuple #[.string (s.extract 0 (s.size - i)), .bool (matchP (pieces (charsOf out)) (s.extract (s.size - i) s.size).data.toList)]) ∧ Below w.heap.size w w' := by
  have HM := Lib.hid (match_walk out A c (s.extract (s.size - i) s.size) w.drew hA hR hts (by simp; omega))
  obtain ⟨m, hm⟩ : ∃ m, matchP (pieces (charsOf out)) (s.extract (s.size - i) s.size).data.toList = m := ⟨_, rfl⟩
  rw [hm] at HM ⊢
  clear hm
  obtain ⟨k, hk⟩ : ∃ k, k = s.size - i := ⟨_, rfl⟩
  rw [← hk] at HM ⊢
  have hw : IntKind.i64.wrap ((s.size : Int) - (i : Int)) = (s.size : Int) - (i : Int) := IntWalk.i64_in _ (by omega)
  have b1 : (0 : Int) ≤ (s.size : Int) - (i : Int) := by omega
  have b2 : (s.size : Int) - (i : Int) ≤ (s.size : Int) := by omega
  have b3 : ((s.size : Int) - (i : Int)).toNat = k := by omega
  clear hk
  have hb : ¬ ((op[0]'hop).toNat : Int) = 35 := by
    intro h
    apply h0
    apply UInt8.toNat_inj.1
    have h5 : (op[0]'hop).toNat = 35 := by omega
    rw [h5]; rfl
  clear h0
  go_enter Tryd.func45, Tryd.ntmps45
  go_wp2
  go_region_held3 (fun w' => w'.cell? ⟨Ns, 0, none⟩ = some (.string s) ∧ w'.cell? ⟨Np, 0, none⟩ = some (.slice A out.length c) ∧ w'.cell? ⟨Nn, 0, none⟩ = some (.int .i64 (s.size : Int))) (go_keep) ((go_at_call 46; refine (HM.out).mono ?_; rintro en w1 ⟨rfl, hb1⟩; have q2 := pw_cell_below hb1 (show w.drew.cell? _ = _ from h2); have q3 := pw_cell_below hb1 (show w.drew.cell? _ = _ from h3); have q4 := pw_cell_below hb1 (show w.drew.cell? _ = _ from h4); have HB := Lib.hid ((Below.refl w.heap.size w).drew.trans hb1); clear hb1))
  go_wp2
  go_ret2
  exact ⟨rfl, HB.out⟩

end Go.Proofs.YthbnnlhkcaomlaaDoor.Ex
