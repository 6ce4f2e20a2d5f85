/-
  A closed run of the abstract machine: where a point is that lies within.
-/
import Derived.Test.YtilbbbjfdcnciaaGreatJCntD
import Derived.KernelRfl
namespace Go.Va

theorem run21b : callPure (exec tabM 100) a21 [ringV, .int .i64 1, .int .i64 1, .int .i64 2] = some (.tup [.int .i64 1, .int .i64 0]) := by kernel_rfl

end Go.Va
