/- ask, whatever is asked for. -/
import Derived.Test.YthbnnlhkcaomlaaDoorExAskA
import Derived.Test.YthbnnlhkcaomlaaDoorExAskB
import Derived.Test.YthbnnlhkcaomlaaDoorExAskC
import Derived.Test.YthbnnlhkcaomlaaDoorExAskE
import Derived.Test.YthbnnlhkcaomlaaDoorExAskF
namespace Go.Proofs.YthbnnlhkcaomlaaDoor.Ex
open Go.RowKit Go.Shelf Go.Proofs.YthbnnlhkcaomlaaDoorW.PrintWords Go.Proofs.YthbnnlhkcaomlaaDoor.Gl

theorem ask_walk (S E : Nat → Prop) (f g : Nat) (deep : Int) (y : FT) (e e' : EnvT) (p : PartT) (A : Option Addr) (n c : Nat) (ba : Option Addr) (x : ParamT) (w : World) (HF : FldAt S w f g deep y) (HE : EnvAt E w g e) (h : askP e p = some (x, e')) :
    Calls Tryd.prog 25 #[.pointer (some ⟨f, 0, none⟩), partV p (.slice A n c) (.pointer ba)] w fun en w' => AskPost E w g x (.slice A n c) (.pointer ba) e' en w' := by
  obtain ⟨k, t, op, q, pw, pb⟩ := p
  by_cases hd : isDigit19 t = true
  · exact ask_digit S E f g deep y e e' k t op q pw pb A n c ba x w HF HE hd h
  · have hd : isDigit19 t = false := by simpa using hd
    by_cases h35 : t = ⟨#[35]⟩
    · subst h35
      exact ask_hash S E f g deep y e e' k op q pw pb A n c ba x w HF HE h
    · by_cases h63 : t = ⟨#[63]⟩
      · subst h63
        exact ask_status S E f g deep y e e' k op q pw pb A n c ba x w HF HE h
      · by_cases h64 : t = ⟨#[64]⟩
        · subst h64
          exact ask_all64 S E f g deep y e e' k op q pw pb A n c ba x w HF HE h
        · by_cases h42 : t = ⟨#[42]⟩
          · subst h42
            exact ask_all42 S E f g deep y e e' k op q pw pb A n c ba x w HF HE h
          · exact ask_get S E f g deep y e e' k t op q pw pb A n c ba x w HF HE hd h35 h63 (by simp [allP, h64, h42]) h

end Go.Proofs.YthbnnlhkcaomlaaDoor.Ex
