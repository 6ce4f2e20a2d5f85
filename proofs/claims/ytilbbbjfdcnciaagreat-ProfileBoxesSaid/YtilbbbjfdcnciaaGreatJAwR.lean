/-
  A closed run of the abstract machine: a square with a hole is read.
-/
import Derived.Test.YtilbbbjfdcnciaaGreatJMa
import Derived.Test.YtilbbbjfdcnciaaGreatJTab
import Derived.KernelRfl
namespace Go.Va

theorem run71 : callPure (exec tab 100) a71 [ringV] = some (.tup [ringV, .int .i64 0]) := by kernel_rfl

end Go.Va
