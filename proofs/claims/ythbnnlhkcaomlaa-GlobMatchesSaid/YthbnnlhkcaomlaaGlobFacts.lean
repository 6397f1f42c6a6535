/- What patterns of one set, and of quoted runs, match: plain facts. -/
import Derived.Test.YthbnnlhkcaomlaaGlobPlain
import Derived.Test.YthbnnlhkcaomlaaGlobRows
namespace Go.Proofs.Ythbnnlhkcaomlaa.Gl
open Go.RowKit

theorem findEnd_at {y r : List Ch} (h : ∀ c ∈ y, isC c 93 = false) : findEnd (y ++ (93, false) :: r) = some y.length := by
  induction y with
  | nil => rfl
  | cons c y ih =>
    rw [List.cons_append, findEnd, h c (by simp), if_neg (by decide), ih (fun c hc => h c (by simp [hc]))]
    rfl

theorem inBody_plain (b : UInt8) : ∀ (n : Nat) (l : List Ch), l.length ≤ n → (∀ c ∈ l, isC c 45 = false) → inBody b l = l.any fun c => b == c.1 := by
  intro n
  induction n with
  | zero => intro l h _; rw [List.length_eq_zero_iff.1 (show l.length = 0 from by omega)]; rfl
  | succ n ih =>
    intro l h hd
    match l, h, hd with
    | [], _, _ => rfl
    | [x], _, _ => simp [inBody]
    | [x, d], _, _ => simp [inBody]
    | x :: d :: y :: l, h, hd =>
      rw [inBody, if_neg (by rw [hd d (by simp)]; decide), ih _ (by simp at h ⊢; omega) (fun c hc => hd c (by simp at hc ⊢; right; exact hc))]
      simp only [List.any_cons]

/-- A whole pattern that is one set. -/
theorem one_set (body : List Ch) (neg : Option Ch) (hne : body ≠ []) (hn : ∀ c, neg = some c → (isC c 33 || isC c 94) = true) (h0 : neg = none → ∀ c, body.head? = some c → (isC c 33 || isC c 94) = false)
    (h1 : ∀ c ∈ body, isC c 93 = false) : pieces ((91, false) :: (neg.toList ++ body ++ [(93, false)])) = [.set body neg.isSome] := by
  obtain ⟨x, y, rfl⟩ := List.exists_cons_of_ne_nil hne
  have hf := findEnd_at (y := y) (r := []) (fun c hc => h1 c (by simp [hc]))
  have hs : setOf ((91, false) :: (neg.toList ++ (x :: y) ++ [(93, false)])) = some ⟨x :: y, neg.isSome, (neg.toList ++ (x :: y)).length + 2⟩ := by
    cases neg with
    | none =>
      have := h0 rfl x rfl
      simp only [Option.toList_none, List.nil_append, List.cons_append, setOf, this, Option.isSome_none]
      rw [if_neg (by simp [isC])]
      simp only [Bool.false_eq_true, if_false]
      rw [hf]
      simp
      omega
    | some c =>
      have := hn c rfl
      simp only [Option.toList_some, List.cons_append, List.nil_append, setOf, this, Option.isSome_some]
      rw [if_neg (by simp [isC])]
      simp only [if_true]
      rw [hf]
      simp; omega
  rw [pieces_set hs, List.drop_eq_nil_of_le (by simp; omega), pieces_nil]

theorem match_set (body : List Ch) (neg : Bool) (b : UInt8) : matchP [.set body neg] [b] = (inBody b body != neg) := by
  rw [matchP]
  simp [Piece.isStar, Piece.one, matchP]

def chq (q : Bool) (l : List UInt8) : List Ch := l.map fun b => (b, q)
theorem any_chq (q : Bool) (l : List UInt8) (b : UInt8) : ((chq q l).any fun c => b == c.1) = l.contains b := by
  induction l with
  | nil => rfl
  | cons x l ih =>
    rw [List.contains_cons, ← ih]
    simp [chq]

/-- The bytes that count for nothing in a set's law. -/
def okB (b : UInt8) : Bool := !([93, 91, 33, 94, 45] : List UInt8).contains b
theorem okB_isC {b : UInt8} (h : okB b = true) (q : Bool) : isC (b, q) 93 = false ∧ isC (b, q) 33 = false ∧ isC (b, q) 94 = false ∧ isC (b, q) 45 = false := by
  simp [okB] at h
  simp [isC, h]

theorem set_law (t : List UInt8) (ht : t ≠ []) (hok : ∀ b ∈ t, okB b = true) (b : UInt8) (q : Bool) :
    matchP (pieces ((91, false) :: (chq q t ++ [(93, false)]))) [b] = t.contains b ∧
    matchP (pieces ((91, false) :: (33, false) :: (chq false t ++ [(93, false)]))) [b] = !t.contains b ∧
    matchP (pieces ((91, false) :: (94, false) :: (chq false t ++ [(93, false)]))) [b] = !t.contains b := by
  have hm : ∀ (q : Bool) (c : Ch), c ∈ chq q t → isC c 93 = false ∧ isC c 33 = false ∧ isC c 94 = false ∧ isC c 45 = false := by
    intro q c hc
    simp only [chq, List.mem_map] at hc
    obtain ⟨x, hx, rfl⟩ := hc
    exact okB_isC (hok x hx) q
  have hne : ∀ q, chq q t ≠ [] := fun q => by simpa [chq] using ht
  have hin : ∀ q, inBody b (chq q t) = t.contains b := fun q => by rw [inBody_plain b _ _ (Nat.le_refl _) (fun c hc => (hm q c hc).2.2.2), any_chq]
  refine ⟨?_, ?_, ?_⟩
  · have := one_set (chq q t) none (hne q) (fun c h => by cases h) (fun _ c hc => by have := hm q c (List.mem_of_mem_head? hc); simp [this]) (fun c hc => (hm q c hc).1)
    simp only [Option.toList_none, List.nil_append] at this
    rw [this, match_set, hin]; simp
  · have := one_set (chq false t) (some (33, false)) (hne _) (fun c h => by cases h; rfl) (fun h => by cases h) (fun c hc => (hm _ c hc).1)
    simp only [Option.toList_some, List.cons_append, List.nil_append] at this
    rw [this, match_set, hin]; simp
  · have := one_set (chq false t) (some (94, false)) (hne _) (fun c h => by cases h; rfl) (fun h => by cases h) (fun c hc => (hm _ c hc).1)
    simp only [Option.toList_some, List.cons_append, List.nil_append] at this
    rw [this, match_set, hin]; simp

theorem chOf_eq (s : ByteArray) (q e : Bool) : chOf ⟨s, q, e⟩ = chq q s.data.toList := rfl
end Go.Proofs.Ythbnnlhkcaomlaa.Gl
