/- The walk of nets.number. -/
import Derived.Test.YtchoenfclfafiaaDoorSetW
namespace Go.Proofs.YtchoenfclfafiaaDoor
open Go.RowKit

end Go.Proofs.YtchoenfclfafiaaDoor
