/-
  A closed run of the abstract machine: what a program must do whatever the input is.
-/
import Derived.Test.YtilbbbjfdcnciaaGreatJCntD
import Derived.KernelRfl
namespace Go.Va

/-- the one answer or the other -/
def orElse (p q : List AV → H → Option (AV × H)) : List AV → H → Option (AV × H) := fun args h => match p args h with | some r => some r | none => q args h

def tabA : Tab := (tabM.over 26 (memo [ringV] (.tup [.int .i64 1, .int .i64 1, .int .i64 8, .int .i64 0]))).over 21
  (orElse (memo [ringV, .int .i64 2, .int .i64 2, .int .i64 1] (.tup [.int .i64 (-1), .int .i64 0])) (memo [ringV, .int .i64 1, .int .i64 1, .int .i64 2] (.tup [.int .i64 1, .int .i64 0])))

theorem run12 : callPure (exec tabA 100) a12 [] = some (.bool true) := by kernel_rfl

/-- the table with the answer -/
def tabB : Tab := tabA.over 12 (memo [] (.bool true))

end Go.Va
