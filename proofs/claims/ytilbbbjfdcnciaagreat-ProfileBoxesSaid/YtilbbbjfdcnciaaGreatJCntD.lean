/-
  The numbers of parts, holes and corners of a square with a hole: the states of the run: made by program.
-/
import Derived.Test.YtilbbbjfdcnciaaGreatJMa
import Derived.Test.YtilbbbjfdcnciaaGreatJTab
namespace Go.Va

def tabM : Tab := tab.over 71 (memo [ringV] (.tup [ringV, .int .i64 0]))

def AC.fst : AC → AC
  | .seq a _ => a
  | a => a
def AC.snd : AC → AC
  | .seq _ b => b
  | a => a
def AC.nth : Nat → AC → AC
  | 0, a => a.fst
  | n + 1, a => AC.nth n a.snd
def AC.inner : AC → AC
  | .block _ a _ => a
  | .loop a _ => a
  | a => a

/-- the pieces of Counts -/
def cp (i : Nat) : AC := a26.body.nth i

/-- the loop over the map: its round -/
def cRound : AC := (cp 8).snd.inner.inner

/-- what a round does with a key -/
def cKey : AC := cRound.snd.snd.inner.snd

def cT0 : T := T.ofArgs 0 [ringV]
def cH0 : H := { objs := [], cnt := 0, ro := 0 }
def cT1 : T := [(1, .ptr 0 0 0), (2, .int .i64 0)]
def cH1 : H := { objs := [(0, .arr 0 true [.slT false [.slT false [.agg [.int .i64 0, .int .i64 0], .agg [.int .i64 4, .int .i64 0], .agg [.int .i64 4, .int .i64 4], .agg [.int .i64 0, .int .i64 4]], .slT false [.agg [.int .i64 1, .int .i64 1], .agg [.int .i64 1, .int .i64 3], .agg [.int .i64 3, .int .i64 3], .agg [.int .i64 3, .int .i64 1]]]])], cnt := 5, ro := 0 }
def cT2 : T := [(1, .ptr 0 0 0), (2, .int .i64 0), (5, .int .i64 0)]
def cH2 : H := { objs := [(0, .arr 0 true [.slT false [.slT false [.agg [.int .i64 0, .int .i64 0], .agg [.int .i64 4, .int .i64 0], .agg [.int .i64 4, .int .i64 4], .agg [.int .i64 0, .int .i64 4]], .slT false [.agg [.int .i64 1, .int .i64 1], .agg [.int .i64 1, .int .i64 3], .agg [.int .i64 3, .int .i64 3], .agg [.int .i64 3, .int .i64 1]]]])], cnt := 12, ro := 0 }
def cT3 : T := [(1, .ptr 0 0 0), (2, .int .i64 0)]
def cH3 : H := { objs := [(0, .arr 0 true [.slT false [.slT false [.agg [.int .i64 0, .int .i64 0], .agg [.int .i64 4, .int .i64 0], .agg [.int .i64 4, .int .i64 4], .agg [.int .i64 0, .int .i64 4]], .slT false [.agg [.int .i64 1, .int .i64 1], .agg [.int .i64 1, .int .i64 3], .agg [.int .i64 3, .int .i64 3], .agg [.int .i64 3, .int .i64 1]]]])], cnt := 14, ro := 0 }
def cT4 : T := [(1, .ptr 0 0 0), (2, .int .i64 0), (6, .ptr 15 0 0)]
def cH4 : H := { objs := [(15, .arr 0 true [.mapR 14]), (14, .map [] []), (0, .arr 0 true [.slT false [.slT false [.agg [.int .i64 0, .int .i64 0], .agg [.int .i64 4, .int .i64 0], .agg [.int .i64 4, .int .i64 4], .agg [.int .i64 0, .int .i64 4]], .slT false [.agg [.int .i64 1, .int .i64 1], .agg [.int .i64 1, .int .i64 3], .agg [.int .i64 3, .int .i64 3], .agg [.int .i64 3, .int .i64 1]]]])], cnt := 17, ro := 0 }
def cT5 : T := [(1, .ptr 0 0 0), (2, .int .i64 0), (6, .ptr 15 0 0), (7, .ptr 17 0 0)]
def cH5 : H := { objs := [(17, .arr 0 true [.nilF]), (15, .arr 0 true [.mapR 14]), (14, .map [] []), (0, .arr 0 true [.slT false [.slT false [.agg [.int .i64 0, .int .i64 0], .agg [.int .i64 4, .int .i64 0], .agg [.int .i64 4, .int .i64 4], .agg [.int .i64 0, .int .i64 4]], .slT false [.agg [.int .i64 1, .int .i64 1], .agg [.int .i64 1, .int .i64 3], .agg [.int .i64 3, .int .i64 3], .agg [.int .i64 3, .int .i64 1]]]])], cnt := 18, ro := 0 }
def cT6 : T := [(1, .ptr 0 0 0), (2, .int .i64 0), (6, .ptr 15 0 0), (7, .ptr 17 0 0)]
def cH6 : H := { objs := [(17, .arr 0 true [.func 79 [] [.ptr 15 0 0, .ptr 17 0 0]]), (15, .arr 0 true [.mapR 14]), (14, .map [] []), (0, .arr 0 true [.slT false [.slT false [.agg [.int .i64 0, .int .i64 0], .agg [.int .i64 4, .int .i64 0], .agg [.int .i64 4, .int .i64 4], .agg [.int .i64 0, .int .i64 4]], .slT false [.agg [.int .i64 1, .int .i64 1], .agg [.int .i64 1, .int .i64 3], .agg [.int .i64 3, .int .i64 3], .agg [.int .i64 3, .int .i64 1]]]])], cnt := 20, ro := 0 }
def cT7 : T := [(1, .ptr 0 0 0), (2, .int .i64 1), (6, .ptr 15 0 0), (7, .ptr 17 0 0)]
def cH7 : H := { objs := [(17, .arr 0 true [.func 79 [] [.ptr 15 0 0, .ptr 17 0 0]]), (15, .arr 0 true [.mapR 14]), (14, .map [.agg [.int .i64 0, .int .i64 0], .agg [.int .i64 4, .int .i64 0], .agg [.int .i64 4, .int .i64 4], .agg [.int .i64 0, .int .i64 4], .agg [.int .i64 1, .int .i64 1], .agg [.int .i64 1, .int .i64 3], .agg [.int .i64 3, .int .i64 3], .agg [.int .i64 3, .int .i64 1]] [.agg [.int .i64 0, .int .i64 0], .agg [.int .i64 0, .int .i64 0], .agg [.int .i64 0, .int .i64 0], .agg [.int .i64 0, .int .i64 0], .agg [.int .i64 1, .int .i64 1], .agg [.int .i64 1, .int .i64 1], .agg [.int .i64 1, .int .i64 1], .agg [.int .i64 1, .int .i64 1]]), (0, .arr 0 true [.slT false [.slT false [.agg [.int .i64 0, .int .i64 0], .agg [.int .i64 4, .int .i64 0], .agg [.int .i64 4, .int .i64 4], .agg [.int .i64 0, .int .i64 4]], .slT false [.agg [.int .i64 1, .int .i64 1], .agg [.int .i64 1, .int .i64 3], .agg [.int .i64 3, .int .i64 3], .agg [.int .i64 3, .int .i64 1]]]])], cnt := 24, ro := 0 }
def cT8 : T := [(1, .ptr 0 0 0), (2, .int .i64 1), (6, .ptr 15 0 0), (7, .ptr 17 0 0), (16, .int .i64 0)]
def cH8 : H := { objs := [(17, .arr 0 true [.func 79 [] [.ptr 15 0 0, .ptr 17 0 0]]), (15, .arr 0 true [.mapR 14]), (14, .map [.agg [.int .i64 0, .int .i64 0], .agg [.int .i64 4, .int .i64 0], .agg [.int .i64 4, .int .i64 4], .agg [.int .i64 0, .int .i64 4], .agg [.int .i64 1, .int .i64 1], .agg [.int .i64 1, .int .i64 3], .agg [.int .i64 3, .int .i64 3], .agg [.int .i64 3, .int .i64 1]] [.agg [.int .i64 0, .int .i64 0], .agg [.int .i64 0, .int .i64 0], .agg [.int .i64 0, .int .i64 0], .agg [.int .i64 0, .int .i64 0], .agg [.int .i64 1, .int .i64 1], .agg [.int .i64 1, .int .i64 1], .agg [.int .i64 1, .int .i64 1], .agg [.int .i64 1, .int .i64 1]]), (0, .arr 0 true [.slT false [.slT false [.agg [.int .i64 0, .int .i64 0], .agg [.int .i64 4, .int .i64 0], .agg [.int .i64 4, .int .i64 4], .agg [.int .i64 0, .int .i64 4]], .slT false [.agg [.int .i64 1, .int .i64 1], .agg [.int .i64 1, .int .i64 3], .agg [.int .i64 3, .int .i64 3], .agg [.int .i64 3, .int .i64 1]]]])], cnt := 25, ro := 0 }

/-- the loop's temporaries; s: how many have been counted -/
def cTL (s : Int) : T := [(1, .ptr 0 0 0), (2, .int .i64 1), (6, .ptr 15 0 0), (7, .ptr 17 0 0), (16, .int .i64 s), (74, .ptr 26 0 0)]
def cHL : H := { cH8 with cnt := 27 }
def cTE (x y s : Int) : T := (17, .ptr 29 0 0) :: (78, .agg [.int .i64 x, .int .i64 y]) :: cTL s
def cHE (x y : Int) : H := { objs := (29, .arr 0 true [.int .i64 x, .int .i64 y]) :: cHL.objs, cnt := 31, ro := 0 }

end Go.Va
