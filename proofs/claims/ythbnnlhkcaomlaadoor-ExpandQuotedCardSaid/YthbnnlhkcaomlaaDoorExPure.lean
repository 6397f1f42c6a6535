/- What a word comes to, as a plain function: with 'none' where a bound of memory would be passed. -/
import Derived.Test.YthbnnlhkcaomlaaDoorExPlain
import Derived.Lib.ItoaNum
import Derived.Lib.Strings
namespace Go.Proofs.YthbnnlhkcaomlaaDoor.Ex
open Go.RowKit Go.Proofs.YthbnnlhkcaomlaaDoorW.PrintWords Go.Proofs.YthbnnlhkcaomlaaDoor.Gl

abbrev B := ByteArray
/-- Bounds: of lists, of texts. -/
def big : Nat := 1000000000
def bigT : Nat := 1099511627776

structure EnvT where
  L : List (B × B)
  args : List B
  status : Int
  seen : List B

inductive PartT where
  | mk (kind : Int) (text op : B) (quoted : Bool) (word : List PartT) (body : Option (B × Bool))
def PartT.kind : PartT → Int | .mk k _ _ _ _ _ => k
def PartT.text : PartT → B | .mk _ t _ _ _ _ => t
def PartT.op : PartT → B | .mk _ _ o _ _ _ => o
def PartT.quoted : PartT → Bool | .mk _ _ _ q _ _ => q
def PartT.word : PartT → List PartT | .mk _ _ _ _ w _ => w
def PartT.body : PartT → Option (B × Bool) | .mk _ _ _ _ _ b => b

/-! ### the environment -/
def seeE (e : EnvT) (s : B) : Option EnvT := if e.seen.length < big then some { e with seen := e.seen ++ [s] } else none
/-- The last one of a name, among the first n. -/
def lookV (L : List (B × B)) (name : B) : Nat → Option B
  | 0 => none
  | i + 1 => if (L.getD i (⟨#[]⟩, ⟨#[]⟩)).1 = name then some (L.getD i (⟨#[]⟩, ⟨#[]⟩)).2 else lookV L name i
def notSet : B := ⟨#[110, 111, 116, 32, 115, 101, 116]⟩
def getE (e : EnvT) (name : B) : Option ((B × Bool) × EnvT) :=
  if name.size ≤ bigT then (seeE e ((⟨#[103, 101, 116, 32]⟩ : B) ++ name)).map fun e' => (match lookV e.L name e.L.length with | some v => (v, true) | none => (notSet, false), e') else none
def setE (e : EnvT) (name value : B) : Option (Int × EnvT) :=
  if name.size ≤ bigT ∧ value.size ≤ bigT then
    (seeE e ((((⟨#[115, 101, 116, 32]⟩ : B) ++ name) ++ (⟨#[61]⟩ : B)) ++ value)).bind fun e' =>
      if value.size > 90 then some (10, e') else if e.L.length < big then some (0, { e' with L := e.L ++ [(name, value)] }) else none
  else none
def argsE (e : EnvT) : Option EnvT := seeE e ⟨#[97, 114, 103, 115]⟩
def statusE (e : EnvT) : Option EnvT := seeE e ⟨#[115, 116, 97, 116, 117, 115]⟩
def substE (e : EnvT) : Option (B × Bool) → Option ((B × Int) × EnvT)
  | none => (seeE e ⟨#[110, 111, 116, 104, 105, 110, 103]⟩).map fun e' => ((⟨#[]⟩, 0), e')
  | some (n, no) => if n.size ≤ bigT then (seeE e ((⟨#[115, 97, 121, 32]⟩ : B) ++ n)).map fun e' => (if no then (⟨#[]⟩, 14) else (n, 0), e') else none

/-! ### fields -/
/-- The fields but for the last one, and that. -/
structure FT where
  init : List (List Rn)
  last : List Rn
def FT.rows (f : FT) : List (List Rn) := f.init ++ [f.last]
def putP (f : FT) (r : Rn) : Option FT := if f.last.length < big then some ⟨f.init, f.last ++ [r]⟩ else none
def newRow (f : FT) : Option FT := if f.init.length < big then some ⟨f.init ++ [f.last], []⟩ else none
def putsP : List Rn → FT → Option FT
  | [], f => some f
  | r :: rs, f => (putP f r).bind (putsP rs)
/-- From the i-th row on. -/
def joinP : Nat → List (List Rn) → FT → Option FT
  | _, [], f => some f
  | i, row :: rest, f => (if 0 < i then newRow f else some f).bind fun f => (putsP row f).bind (joinP (i + 1) rest)
def flatP : Nat → List (List Rn) → List Rn → Option (List Rn)
  | _, [], acc => some acc
  | i, row :: rest, acc =>
    let a := if 0 < i then acc ++ [⟨⟨#[32]⟩, false, false⟩] else acc
    if acc.length < big ∧ row.length < big then flatP (i + 1) rest (a ++ row) else none
def runP (p : PartT) (s : B) : Rn := ⟨s, p.quoted, !p.quoted⟩
def allP (t : B) : Bool := decide (t = ⟨#[64]⟩) || decide (t = ⟨#[42]⟩)

/-! ### a parameter -/
structure ParamT where
  p : PartT
  value : B
  set : Bool
  args : List B
  missing : Bool
def isDigit19 (t : B) : Bool := decide (t.size = 1) && (decide (49 ≤ (t.data.toList.headD 0).toNat) && decide ((t.data.toList.headD 0).toNat ≤ 57))
def joinA (l : List B) : B := ⟨(Lib.join (l.map (·.data.toList)) [32]).toArray⟩
def itoaB (n : Int) : B := ⟨(Lib.itoa n).toArray⟩
/-- The value and whether there is one, and the arguments that were asked for. -/
def askV (e : EnvT) (t : B) : Option ((B × Bool × List B) × EnvT) :=
  if isDigit19 t then (argsE e).map fun e' =>
    (if (t.data.toList.headD 0).toNat - 48 ≤ e.args.length then (e.args.getD ((t.data.toList.headD 0).toNat - 49) ⟨#[]⟩, true, []) else (⟨#[]⟩, false, []), e')
  else if t = ⟨#[35]⟩ then (argsE e).map fun e' => ((itoaB e.args.length, true, []), e')
  else if t = ⟨#[63]⟩ then (statusE e).map fun e' => ((itoaB e.status, true, []), e')
  else if allP t then (argsE e).bind fun e' => if (joinA e.args).size ≤ bigT then some ((joinA e.args, decide (0 < e.args.length), e.args), e') else none
  else (getE e t).map fun x => ((if x.1.2 then x.1.1 else ⟨#[]⟩, x.1.2, []), x.2)
def hasColon (op : B) : Bool := Lib.hasPrefix op.data.toList [58]
def askP (e : EnvT) (p : PartT) : Option (ParamT × EnvT) :=
  (askV e p.text).map fun x => (⟨p, x.1.1, x.1.2.1, x.1.2.2, !x.1.2.1 || (hasColon p.op && decide (x.1.1 = ⟨#[]⟩))⟩, x.2)

/-- What a word comes to: rows (none: there is an error), the error, the environment. -/
abbrev Ans := List (List Rn) × Int × EnvT
/-- Behind a method: the error, the fields, the environment. -/
abbrev Res := Int × FT × EnvT

def tellP (x : ParamT) (f : FT) (e : EnvT) : Option Res := (putP f (runP x.p x.value)).map fun f' => (0, f', e)
def plainP (x : ParamT) (f : FT) (e : EnvT) : Option Res :=
  if !allP x.p.text || (decide (x.p.text = ⟨#[42]⟩) && x.p.quoted) then tellP x f e
  else if x.args.length < big then (joinP 0 (x.args.map fun s => [runP x.p s]) f).map fun f' => (0, f', e) else none
def sizeP (x : ParamT) (f : FT) (e : EnvT) : Option Res := tellP { x with value := itoaB (if allP x.p.text then x.args.length else x.value.size) } f e
section
variable (W : List PartT → EnvT → Option Ans)
def otherP (x : ParamT) (f : FT) (e : EnvT) : Option Res := (W x.p.word e).bind fun a => (joinP 0 a.1 f).map fun f' => (a.2.1, f', a.2.2)
def orElseP (x : ParamT) (f : FT) (e : EnvT) : Option Res := if x.missing then otherP W x f e else tellP x f e
def insteadP (x : ParamT) (f : FT) (e : EnvT) : Option Res := if x.missing then some (0, f, e) else otherP W x f e
def mustP (x : ParamT) (f : FT) (e : EnvT) : Option Res := if x.missing then some (2, f, e) else tellP x f e
end
/-- A rune that no name holds. -/
def badRune (c : Nat) : Bool := decide (c ≠ 95) && (decide (c < 97) || decide (122 < c)) && (decide (c < 65) || decide (90 < c)) && (decide (c < 48) || decide (57 < c))
end Go.Proofs.YthbnnlhkcaomlaaDoor.Ex
