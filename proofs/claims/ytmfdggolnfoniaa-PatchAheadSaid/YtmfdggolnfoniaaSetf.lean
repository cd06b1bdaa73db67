/- Lists of names of patches: do they rise? -/
import Derived.Test.YtmfdggolnfoniaaSete
namespace Go.Proofs.Ytmfdggolnfoniaa
open Go.RowKit

theorem ext_pcmp {w0 : World} {z : Ext w0} (x y : PidV) : Calls Try.prog 59 #[.agg (encP x).toArray, .agg (encP y).toArray] z.w fun e w'' => e = .returned (.int .i64 (signV (keyP x) (keyP y))) ∧ ∃ z' : Ext w0, w'' = z'.w := ext_call (cmpP x y _)
end Go.Proofs.Ytmfdggolnfoniaa
