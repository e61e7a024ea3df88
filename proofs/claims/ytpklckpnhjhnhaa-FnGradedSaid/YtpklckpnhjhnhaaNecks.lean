/- Slices of necks: the laws' size, copy and comparison; the list's test. -/
import Derived.Test.YtpklckpnhjhnhaaQuads
import Derived.Test.YtpklckpnhjhnhaaNeck
namespace Go.Proofs.Ytpklckpnhjhnhaa
open Go.RowKit Go.ChangeShapes Go.WideShapes Go.Deep

end Go.Proofs.Ytpklckpnhjhnhaa
