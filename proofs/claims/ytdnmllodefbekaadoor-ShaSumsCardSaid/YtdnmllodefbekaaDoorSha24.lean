import Derived.Test.YtdnmllodefbekaaDoorHShaSumsx
import Derived.Test.YtdnmllodefbekaaDoorSha17
import Derived.Test.YtdnmllodefbekaaDoorSha23c
namespace Go.Proofs.YtdnmllodefbekaaDoor.Sha
open Go.RowKit Go.Lib Go.Proofs.YtdnmllodefbekaaDoorW.PrintWords Go.Proofs.YtdnmllodefbekaaDoorW.PrintLast Go.Proofs.YtdnmllodefbekaaDoorW.PrintMore
open Go.Proofs.YtdnmllodefbekaaDoor.HShaSums
set_option linter.unusedVariables false
set_option linter.unusedSimpArgs false


/-- The first 64 primes. -/
def PR : List Int := [2, 3, 5, 7, 11, 13, 17, 19, 23, 29, 31, 37, 41, 43, 47, 53, 59, 61, 67, 71, 73, 79, 83, 89, 97, 101, 103, 107, 109, 113, 127, 131, 137, 139, 149, 151, 157, 163, 167, 173, 179, 181, 191, 193, 197, 199, 211, 223, 227, 229, 233, 239, 241, 251, 257, 263, 269, 271, 277, 281, 283, 293, 307, 311]
set_option maxRecDepth 1000000 in
theorem primes_ev : hopperref24_primes.f 11642 64 = some PR := by decide +kernel
theorem square_ev : (PR.take 8).map (hopperref24_square.f 100) = HS.map some := by decide +kernel
theorem cube_ev : PR.map (hopperref24_cube.f 100) = KS.map some := by decide +kernel
end Go.Proofs.YtdnmllodefbekaaDoor.Sha
