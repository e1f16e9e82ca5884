import Derived.Test.YthnhbemmlfaihaaGreatO13
import Derived.Test.YthnhbemmlfaihaaGreatO15
set_option linter.unusedVariables false
set_option linter.unusedSimpArgs false
set_option maxRecDepth 10000
set_option maxHeartbeats 64000000
namespace Go.Proofs.Pk
open Go Go.Vc
structure acD where
 l:List Int
 e:Int
structure NC where
 n:Net
 c:Cut
structure DG where
 k:Nat
 nd:List Bool
 d:List Int
end Go.Proofs.Pk
