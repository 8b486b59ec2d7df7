/- KeysOnce: every text that is a key is the key of its parts; cut off, it is another key, of fewer parts that the longer one begins with, or none. No conditions beside the row's own. -/
import Derived.Test.YtephhhflifjcmaaNOnce
namespace Go.Proofs.Ytephhhflifjcmaa.Pure
open Go.RowKit Go.Proofs.Ytephhhflifjcmaa.K Go.Proofs.YtephhhflifjcmaaW.PrintWords Go.Proofs.YtephhhflifjcmaaW.PrintLast
theorem KeysOnce : klaxonlaw07_KeysOnce.Pure := fun a0 a1 _ _ => (M.once_law a0 a1).rounds
end Go.Proofs.Ytephhhflifjcmaa.Pure
