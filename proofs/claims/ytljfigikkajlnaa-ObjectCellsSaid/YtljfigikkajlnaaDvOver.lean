/- DERIVED. The statements' own helpers: over, spoil. -/
import Derived.Test.YtljfigikkajlnaaDvPlain
import Derived.Test.YtljfigikkajlnaaWEqStruct
import Derived.Deep.QuietTactic
import Derived.BigQuiet
import Derived.Deep.RegionHeld3
import Derived.WalkLawsBesides
import Derived.WalkSpells
import Derived.Lib.Hide
import Derived.Outline
import Derived.RegionCalls
import Derived.Lib.Bytealg
import Derived.WalkMore
import Derived.Lib.Strings
import Derived.Laws.Runes
namespace Go.Proofs.Ytljfigikkajlnaa
open Go.RowKit
set_option linter.unusedVariables false
set_option linter.unusedSimpArgs false

def behindD : Dot := ⟨8888, 0⟩
def behindS : Sib := ⟨⟨0, 0⟩, false, ⟨#[98, 101, 104, 105, 110, 100]⟩⟩
end Go.Proofs.Ytljfigikkajlnaa
