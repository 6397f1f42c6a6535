/- Patterns of characters against texts, as lists: what a pattern's pieces are, when pieces match a text, and that going back to the last star alone finds every match. No program in sight. -/
import Derived.Below
namespace Go.Proofs.YthbnnlhkcaomlaaDoor.Gl

/-- A character of a pattern: a byte, and whether it is quoted. -/
abbrev Ch := UInt8 × Bool

def isC (c : Ch) (b : UInt8) : Bool := !c.2 && c.1 == b

/-- How many of the first characters are no ']' (unquoted). -/
def findEnd : List Ch → Option Nat
  | [] => none
  | c :: l => if isC c 93 then some 0 else (findEnd l).map (· + 1)

structure SetP where
  body : List Ch
  neg : Bool
  len : Nat

/-- The set that begins a list. -/
def setOf (l : List Ch) : Option SetP :=
  match l with
  | [] => none
  | c :: r =>
    if !isC c 91 then none else
    match r with
    | [] => none
    | d :: r' =>
      match (if isC d 33 || isC d 94 then r' else r) with
      | [] => none
      | x :: y => (findEnd y).map fun k => ⟨x :: y.take k, isC d 33 || isC d 94, (if isC d 33 || isC d 94 then 2 else 1) + 1 + k + 1⟩

/-- Is a byte told by a set's body? -/
def inBody (b : UInt8) : List Ch → Bool
  | [] => false
  | [x] => b == x.1
  | [x, d] => b == x.1 || b == d.1
  | x :: d :: y :: l => if isC d 45 then (decide (x.1 ≤ b) && decide (b ≤ y.1)) || inBody b l else b == x.1 || inBody b (d :: y :: l)

inductive Piece where
  | star
  | any
  | lit (b : UInt8)
  | set (body : List Ch) (neg : Bool)
  deriving Inhabited

def Piece.isStar : Piece → Bool
  | .star => true
  | _ => false

def Piece.odd : Piece → Bool
  | .lit _ => false
  | _ => true

def Piece.one (p : Piece) (b : UInt8) : Bool :=
  match p with
  | .star => false
  | .any => true
  | .lit c => b == c
  | .set body neg => inBody b body != neg

theorem setOf_len {l : List Ch} {s : SetP} (h : setOf l = some s) : 0 < s.len := by
  unfold setOf at h
  split at h
  · cases h
  · split at h
    · cases h
    · split at h
      · cases h
      · split at h
        · cases h
        · rw [Option.map_eq_some_iff] at h
          obtain ⟨k, _, rfl⟩ := h
          simp

/-- The piece that a character is, which begins no set. -/
def ofCh (c : Ch) : Piece := if isC c 42 then .star else if isC c 63 then .any else .lit c.1

/-- The pieces of a pattern; the number bounds its length. -/
def piecesN : Nat → List Ch → List Piece
  | 0, _ => []
  | _ + 1, [] => []
  | n + 1, c :: l =>
    match setOf (c :: l) with
    | some s => .set s.body s.neg :: piecesN n ((c :: l).drop s.len)
    | none => ofCh c :: piecesN n l

def pieces (l : List Ch) : List Piece := piecesN l.length l

theorem piecesN_step : ∀ (m : Nat) (k : List Ch), k.length ≤ m → piecesN (m + 1) k = piecesN m k := by
  intro m
  induction m with
  | zero => intro k h; have : k = [] := List.length_eq_zero_iff.1 (by omega); subst this; rfl
  | succ m ih =>
    intro k h
    cases k with
    | nil => rfl
    | cons c k =>
      simp only [List.length_cons] at h
      rw [piecesN, piecesN]
      cases hs : setOf (c :: k) with
      | none => simp only; rw [ih k (by omega)]
      | some s =>
        have := setOf_len hs
        simp only
        rw [ih _ (by simp only [List.length_drop, List.length_cons]; omega)]

theorem piecesN_enough (n : Nat) : ∀ (l : List Ch), l.length ≤ n → piecesN n l = piecesN l.length l := by
  induction n with
  | zero => intro l h; have : l = [] := List.length_eq_zero_iff.1 (by omega); subst this; rfl
  | succ n ih =>
    intro l h
    by_cases hl : l.length ≤ n
    · rw [piecesN_step n l hl, ih l hl]
    · rw [show n + 1 = l.length from by omega]

theorem pieces_nil : pieces [] = [] := rfl

theorem pieces_set {l : List Ch} {s : SetP} (h : setOf l = some s) : pieces l = .set s.body s.neg :: pieces (l.drop s.len) := by
  cases l with
  | nil => simp [setOf] at h
  | cons c l =>
    have := setOf_len h
    unfold pieces
    simp only [List.length_cons]
    rw [piecesN, h]
    simp only
    rw [piecesN_enough l.length _ (by simp only [List.length_drop, List.length_cons]; omega)]

theorem pieces_none {c : Ch} {l : List Ch} (h : setOf (c :: l) = none) : pieces (c :: l) = ofCh c :: pieces l := by
  unfold pieces
  simp only [List.length_cons]
  rw [piecesN, h]

/-- All rests of a text. -/
def sufs : List UInt8 → List (List UInt8)
  | [] => [[]]
  | b :: s => (b :: s) :: sufs s

/-- Do pieces match a text? -/
def matchP : List Piece → List UInt8 → Bool
  | [], s => s.isEmpty
  | p :: l, s =>
    if p.isStar then (sufs s).any (matchP l) else
    match s with
    | [] => false
    | b :: t => p.one b && matchP l t

theorem matchP_cons (p : Piece) (l : List Piece) (s : List UInt8) :
    matchP (p :: l) s = if p.isStar then (sufs s).any (matchP l) else match s with
      | [] => false
      | b :: t => p.one b && matchP l t := by
  cases s <;> rfl

theorem sufs_any (f : List UInt8 → Bool) : ∀ s : List UInt8, (sufs s).any f = true ↔ ∃ k, k ≤ s.length ∧ f (s.drop k) = true
  | [] => by
    simp only [sufs, List.any_cons, List.any_nil, Bool.or_false, List.length_nil]
    exact ⟨fun h => ⟨0, Nat.le_refl _, h⟩, fun ⟨k, hk, h⟩ => by have : k = 0 := by omega
                                                                subst this; exact h⟩
  | b :: s => by
    simp only [sufs, List.any_cons, Bool.or_eq_true, List.length_cons]
    constructor
    · rintro (h | h)
      · exact ⟨0, Nat.zero_le _, h⟩
      · obtain ⟨k, hk, h⟩ := (sufs_any f s).1 h
        exact ⟨k + 1, by omega, h⟩
    · rintro ⟨k, hk, h⟩
      cases k with
      | zero => exact .inl h
      | succ k => exact .inr ((sufs_any f s).2 ⟨k, by omega, h⟩)

theorem matchP_star {p : Piece} {l : List Piece} {s : List UInt8} (hp : p.isStar = true) : matchP (p :: l) s = true ↔ ∃ k, k ≤ s.length ∧ matchP l (s.drop k) = true := by
  rw [matchP_cons, if_pos hp]; exact sufs_any _ _

theorem matchP_one {p : Piece} {l : List Piece} {s : List UInt8} (hp : p.isStar = false) : matchP (p :: l) s = true ↔ ∃ b t, s = b :: t ∧ p.one b = true ∧ matchP l t = true := by
  rw [matchP_cons, if_neg (by rw [hp]; decide)]
  cases s with
  | nil => simp
  | cons b t =>
    simp only [Bool.and_eq_true, List.cons.injEq]
    exact ⟨fun h => ⟨b, t, ⟨rfl, rfl⟩, h.1, h.2⟩, fun ⟨_, _, ⟨rfl, rfl⟩, h1, h2⟩ => ⟨h1, h2⟩⟩

theorem matchP_nil {s : List UInt8} : matchP [] s = true ↔ s = [] := by
  rw [matchP]; simp

/-- Some pieces, none of them a star, match a run of bytes. -/
def Run (P : List Piece) (s : List UInt8) (back from_ n : Nat) : Prop :=
  ∀ t, t < n → ∃ p b, P[back + t]? = some p ∧ s[from_ + t]? = some b ∧ p.isStar = false ∧ p.one b = true

theorem drop_cons {α : Type} {l : List α} {k : Nat} {x : α} (h : l[k]? = some x) : l.drop k = x :: l.drop (k + 1) := by
  obtain ⟨hk, rfl⟩ := List.getElem?_eq_some_iff.1 h
  exact List.drop_eq_getElem_cons hk

/-- What matches behind so many pieces that are no stars: just as many bytes. -/
theorem match_run {P : List Piece} {back : Nat} (s : List UInt8) : ∀ (n j : Nat), (∀ t, t < n → ∃ p, P[back + t]? = some p ∧ p.isStar = false) →
    matchP (P.drop back) (s.drop j) = true → j ≤ s.length → j + n ≤ s.length ∧ matchP (P.drop (back + n)) (s.drop (j + n)) = true := by
  intro n
  induction n with
  | zero => intro j _ h hj; exact ⟨hj, h⟩
  | succ n ih =>
    intro j hs h hj
    obtain ⟨h1, h2⟩ := ih j (fun t ht => hs t (by omega)) h hj
    obtain ⟨p, hp, hst⟩ := hs n (by omega)
    rw [drop_cons hp, matchP_one hst] at h2
    obtain ⟨b, t, hb, _, hm⟩ := h2
    have hlt : j + n < s.length := by
      rcases Nat.lt_or_ge (j + n) s.length with h | h
      · exact h
      · rw [List.drop_eq_nil_of_le h] at hb; cases hb
    refine ⟨by omega, ?_⟩
    rw [List.drop_eq_getElem_cons hlt] at hb
    injection hb with _ hb
    rw [show j + (n + 1) = j + n + 1 from by omega, show back + (n + 1) = back + n + 1 from by omega, hb]
    exact hm

theorem run_match {P : List Piece} {s : List UInt8} {back from_ : Nat} : ∀ n, Run P s back from_ n → matchP (P.drop (back + n)) (s.drop (from_ + n)) = true → matchP (P.drop back) (s.drop from_) = true := by
  intro n
  induction n with
  | zero => intro _ h; exact h
  | succ n ih =>
    intro hr h
    refine ih (fun t ht => hr t (by omega)) ?_
    obtain ⟨p, b, hp, hb, hst, ho⟩ := hr n (by omega)
    rw [drop_cons hp, drop_cons hb, matchP_one hst]
    exact ⟨b, _, rfl, ho, h⟩

/-- What holds at the head of each round of Match. -/
structure Inv (P : List Piece) (s : List UInt8) (at_ i : Nat) (back from_ : Int) : Prop where
  hat : at_ ≤ P.length
  hi : i ≤ s.length
  hf : 0 ≤ from_ ∧ from_ ≤ i
  hcase : (back < 0 ∧ back = -1 ∧ (matchP P s = true ↔ matchP (P.drop at_) (s.drop i) = true)) ∨
    (0 ≤ back ∧ ∃ n : Nat, (at_ : Int) = back + n ∧ (i : Int) = from_ + n ∧ Run P s back.toNat from_.toNat n ∧
      (matchP P s = true ↔ ∃ j, from_.toNat ≤ j ∧ j ≤ s.length ∧ matchP (P.drop back.toNat) (s.drop j) = true))

theorem Inv.start (P : List Piece) (s : List UInt8) : Inv P s 0 0 (-1) 0 :=
  ⟨Nat.zero_le _, Nat.zero_le _, by omega, .inl ⟨by omega, rfl, Iff.rfl⟩⟩

theorem Inv.star {P : List Piece} {s : List UInt8} {at_ i : Nat} {back from_ : Int} (h : Inv P s at_ i back from_) {p : Piece} (hp : P[at_]? = some p) (hst : p.isStar = true) :
    Inv P s (at_ + 1) i (at_ + 1) i := by
  have hlt : at_ < P.length := (List.getElem?_eq_some_iff.1 hp).1
  refine ⟨hlt, h.hi, by omega, .inr ⟨by omega, 0, by omega, by omega, fun t ht => by omega, ?_⟩⟩
  rw [show ((at_ : Int) + 1).toNat = at_ + 1 from by omega, show ((i : Int)).toNat = i from by omega]
  have key : matchP (P.drop at_) (s.drop i) = true ↔ ∃ j, i ≤ j ∧ j ≤ s.length ∧ matchP (P.drop (at_ + 1)) (s.drop j) = true := by
    rw [drop_cons hp, matchP_star hst]
    constructor
    · rintro ⟨k, hk, hm⟩
      rw [List.drop_drop] at hm
      rw [List.length_drop] at hk
      have := h.hi
      exact ⟨i + k, by omega, by omega, hm⟩
    · rintro ⟨j, h1, h2, hm⟩
      refine ⟨j - i, by rw [List.length_drop]; omega, ?_⟩
      rw [List.drop_drop, show i + (j - i) = j from by omega]
      exact hm
  rcases h.hcase with ⟨_, _, h3⟩ | ⟨hb, n, hn, hin, hrun, h3⟩
  · rw [h3, key]
  · rw [h3, ← key]
    have hf := h.hf
    have e1 : back.toNat + n = at_ := by omega
    have e2 : from_.toNat + n = i := by omega
    constructor
    · rintro ⟨j, hj1, hj2, hm⟩
      obtain ⟨h4, h5⟩ := match_run s n j (fun t ht => by obtain ⟨p, b, hp, _, hs, _⟩ := hrun t ht; exact ⟨p, hp, hs⟩) hm hj2
      rw [e1, drop_cons hp, matchP_star hst] at h5
      obtain ⟨k, hk, h5⟩ := h5
      rw [List.drop_drop] at h5
      rw [List.length_drop] at hk
      exact key.2 ⟨j + n + k, by omega, by omega, h5⟩
    · intro hm
      have := h.hi
      exact ⟨from_.toNat, Nat.le_refl _, by have := h.hf; omega, run_match n hrun (by rw [e1, e2]; exact hm)⟩

theorem Inv.advance {P : List Piece} {s : List UInt8} {at_ i : Nat} {back from_ : Int} (h : Inv P s at_ i back from_) {p : Piece} {b : UInt8} (hp : P[at_]? = some p) (hb : s[i]? = some b)
    (hst : p.isStar = false) (ho : p.one b = true) : Inv P s (at_ + 1) (i + 1) back from_ := by
  have hlt : at_ < P.length := (List.getElem?_eq_some_iff.1 hp).1
  have hil : i < s.length := (List.getElem?_eq_some_iff.1 hb).1
  have hf := h.hf
  refine ⟨hlt, hil, by omega, ?_⟩
  rcases h.hcase with ⟨h0, h1, h2⟩ | ⟨h0, n, hn, hin, hrun, h3⟩
  · refine .inl ⟨h0, h1, ?_⟩
    rw [h2, drop_cons hp, drop_cons hb, matchP_one hst]
    constructor
    · rintro ⟨b', t, he, _, hm⟩
      injection he with he1 he2
      rw [he2]; exact hm
    · intro hm; exact ⟨b, _, rfl, ho, hm⟩
  · refine .inr ⟨h0, n + 1, by omega, by omega, ?_, h3⟩
    intro t ht
    by_cases htn : t < n
    · exact hrun t htn
    · have : t = n := by omega
      subst this
      exact ⟨p, b, by rw [show back.toNat + t = at_ from by omega]; exact hp, by rw [show from_.toNat + t = i from by omega]; exact hb, hst, ho⟩

/-- Nothing goes on here: at a piece's end, or at a byte that it does not match. -/
theorem Inv.stuck {P : List Piece} {s : List UInt8} {at_ i : Nat} (hi : i < s.length)
    (hno : ∀ p b, P[at_]? = some p → s[i]? = some b → p.isStar = false ∧ p.one b = false) : matchP (P.drop at_) (s.drop i) = false := by
  have hb : s[i]? = some s[i] := List.getElem?_eq_some_iff.2 ⟨hi, rfl⟩
  cases hp : P[at_]? with
  | none =>
    rw [List.drop_eq_nil_of_le (List.getElem?_eq_none_iff.1 hp), drop_cons hb, matchP]; rfl
  | some p =>
    obtain ⟨h1, h2⟩ := hno p _ hp hb
    rw [drop_cons hp, drop_cons hb, matchP_cons, if_neg (by rw [h1]; decide)]
    simp only [h2, Bool.false_and]

theorem Inv.fails {P : List Piece} {s : List UInt8} {at_ i : Nat} {back from_ : Int} (h : Inv P s at_ i back from_) (hi : i < s.length) (hneg : back < 0)
    (hno : ∀ p b, P[at_]? = some p → s[i]? = some b → p.isStar = false ∧ p.one b = false) : matchP P s = false := by
  rcases h.hcase with ⟨h0, h1, h2⟩ | ⟨h0, _⟩
  · have := Inv.stuck hi hno
    cases hm : matchP P s with
    | false => rfl
    | true => rw [h2.1 hm] at this; cases this
  · omega

theorem Inv.back {P : List Piece} {s : List UInt8} {at_ i : Nat} {back from_ : Int} (h : Inv P s at_ i back from_) (hi : i < s.length) (hpos : 0 ≤ back)
    (hno : ∀ p b, P[at_]? = some p → s[i]? = some b → p.isStar = false ∧ p.one b = false) : Inv P s back.toNat (from_ + 1).toNat back (from_ + 1) := by
  have hf := h.hf
  rcases h.hcase with ⟨h0, _⟩ | ⟨h0, n, hn, hin, hrun, h3⟩
  · omega
  · have hat := h.hat
    refine ⟨by omega, by omega, by omega, .inr ⟨h0, 0, by omega, by omega, fun t ht => by omega, ?_⟩⟩
    rw [h3]
    have e1 : back.toNat + n = at_ := by omega
    have e2 : from_.toNat + n = i := by omega
    constructor
    · rintro ⟨j, hj1, hj2, hm⟩
      by_cases hj : j = from_.toNat
      · subst hj
        obtain ⟨_, h5⟩ := match_run s n from_.toNat (fun t ht => by obtain ⟨p, b, hp, _, hs, _⟩ := hrun t ht; exact ⟨p, hp, hs⟩) hm hj2
        rw [e1, e2, Inv.stuck hi hno] at h5
        cases h5
      · exact ⟨j, by omega, hj2, hm⟩
    · rintro ⟨j, hj1, hj2, hm⟩
      exact ⟨j, by omega, hj2, hm⟩

/-- Stars alone. -/
theorem match_stars : ∀ (P : List Piece), (∀ p ∈ P, p.isStar = true) → matchP P [] = true
  | [], _ => rfl
  | p :: P, h => by
    rw [matchP_star (h p (by simp))]
    exact ⟨0, Nat.le_refl _, match_stars P fun q hq => h q (by simp [hq])⟩

theorem match_empty : ∀ (P : List Piece), matchP P [] = true ↔ ∀ p ∈ P, p.isStar = true
  | [] => by simp [matchP]
  | p :: P => by
    cases hp : p.isStar with
    | true =>
      rw [matchP_star hp]
      constructor
      · rintro ⟨k, hk, h⟩ q hq
        rw [List.drop_nil] at h
        rcases List.mem_cons.1 hq with rfl | hq
        · exact hp
        · exact (match_empty P).1 h q hq
      · intro h
        exact ⟨0, Nat.le_refl _, (match_empty P).2 fun q hq => h q (by simp [hq])⟩
    | false =>
      rw [matchP_one hp]
      constructor
      · rintro ⟨b, t, h, _⟩; cases h
      · intro h; rw [h p (by simp)] at hp; cases hp

/-- The text is over. -/
theorem Inv.over {P : List Piece} {s : List UInt8} {at_ : Nat} {back from_ : Int} (h : Inv P s at_ s.length back from_) : matchP P s = true ↔ ∀ p ∈ P.drop at_, p.isStar = true := by
  rw [← match_empty]
  have hf := h.hf
  rcases h.hcase with ⟨h0, _, h2⟩ | ⟨h0, n, hn, hin, hrun, h3⟩
  · rw [h2, List.drop_eq_nil_of_le (Nat.le_refl _)]
  · rw [h3]
    have e1 : back.toNat + n = at_ := by omega
    have e2 : from_.toNat + n = s.length := by omega
    constructor
    · rintro ⟨j, hj1, hj2, hm⟩
      obtain ⟨h4, h5⟩ := match_run s n j (fun t ht => by obtain ⟨p, b, hp, _, hs, _⟩ := hrun t ht; exact ⟨p, hp, hs⟩) hm hj2
      have e3 : s.drop (j + n) = [] := List.drop_eq_nil_of_le (by omega)
      rw [e1, e3] at h5
      exact h5
    · intro hm
      refine ⟨from_.toNat, Nat.le_refl _, by omega, run_match n hrun ?_⟩
      rw [e1, e2, List.drop_eq_nil_of_le (Nat.le_refl _)]
      exact hm

/-- Where all pieces from 'at' to k are stars, and the one at k is none, or there is none. -/
theorem stars_upto {P : List Piece} {at_ k : Nat} (hk : k ≤ P.length) (hak : at_ ≤ k) (hs : ∀ t, at_ ≤ t → t < k → ∃ p, P[t]? = some p ∧ p.isStar = true)
    (hn : ∀ p, P[k]? = some p → p.isStar = false) : (∀ p ∈ P.drop at_, p.isStar = true) ↔ k = P.length := by
  constructor
  · intro h
    rcases Nat.lt_or_ge k P.length with hlt | hge
    · have h1 := hn P[k] (List.getElem?_eq_some_iff.2 ⟨hlt, rfl⟩)
      have h2 := h P[k] (by rw [List.mem_drop_iff_getElem]; exact ⟨k - at_, by omega, by simp [show at_ + (k - at_) = k from by omega]⟩)
      rw [h2] at h1; cases h1
    · omega
  · rintro rfl p hp
    rw [List.mem_drop_iff_getElem] at hp
    obtain ⟨j, hj, rfl⟩ := hp
    obtain ⟨q, hq, hqs⟩ := hs (at_ + j) (by omega) (by omega)
    rw [List.getElem?_eq_some_iff] at hq
    obtain ⟨_, rfl⟩ := hq
    exact hqs

end Go.Proofs.YthbnnlhkcaomlaaDoor.Gl
