/- The pure side of CryostatNames: the closed sentence answers true. -/
import Derived.Test.YtekgaoakijbmaaaPCryostatNamesx1
import Derived.Test.YtekgaoakijbmaaaGen
set_option linter.unusedSimpArgs false
namespace Go.Proofs.Ytekgaoakijbmaaa.Pure
open Go.RowKit Go.Proofs.Gen Go.Proofs.Ytekgaoakijbmaaa.PCryostatNames Go.Proofs.YtekgaoakijbmaaaW.PrintWords Go.Proofs.YtekgaoakijbmaaaW.PrintLast
theorem CryostatNames : cryostatlaw0_CryostatNames.Pure := by unfold cryostatlaw0_CryostatNames.Pure; decide +kernel
end Go.Proofs.Ytekgaoakijbmaaa.Pure
