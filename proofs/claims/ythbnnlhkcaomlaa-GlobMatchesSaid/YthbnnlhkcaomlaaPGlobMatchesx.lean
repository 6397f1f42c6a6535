/- For every input that law answers true and leaves its arguments as they were: a part of its proof. Printed by the kit's print tool, with this session's own contracts (wip/glob/ext.py) at the functions that the tool cannot print. Not trusted: Lean checks it. -/
import Derived.Test.YthbnnlhkcaomlaaPGlobMatchesx0
import Derived.Test.YthbnnlhkcaomlaaPGlobMatchesx1
import Derived.Test.YthbnnlhkcaomlaaPGlobMatchesx2
import Derived.Test.YthbnnlhkcaomlaaPGlobMatchesx3
import Derived.Test.YthbnnlhkcaomlaaPGlobMatchesx4
import Derived.Test.YthbnnlhkcaomlaaPGlobMatchesx5
import Derived.Test.YthbnnlhkcaomlaaPGlobMatchesx6
namespace Go.Proofs.Ythbnnlhkcaomlaa.PGlobMatches
open Go.RowKit Go.Proofs.YthbnnlhkcaomlaaW.PrintWords Go.Proofs.YthbnnlhkcaomlaaW.PrintLast Go.Proofs.YthbnnlhkcaomlaaW.PrintMore
attribute [local go_sem] max2_int min2_int max_two min_two max_three min_three max_four min_four   -- for this text's walks alone
set_option linter.unusedVariables false
set_option linter.unusedSimpArgs false

end Go.Proofs.Ythbnnlhkcaomlaa.PGlobMatches
