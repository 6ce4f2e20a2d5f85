/-
  The functions as code of the abstract machine, part 2: made by program.
-/
import Derived.Test.YtilbbbjfdcnciaaGreatJTa
set_option maxRecDepth 100000
namespace Go.Va

/-- spokeshave/num.compared -/
def a169 : AFunc := ⟨
 (.seq
  (.region [] [] [
    ⟨(some 4), .mov (.c (.int .i64 0)), none⟩] false [0, 1])
 (.seq
  (.seq
   (.region [] [] [
     ⟨(some 6), .mov (.t 0), none⟩,
     ⟨(some 7), .len (.t 6), none⟩,
     ⟨(some 8), .mov (.t 1), none⟩,
     ⟨(some 9), .len (.t 8), none⟩,
     ⟨(some 10), .bin .neq 0 (.t 7) (.t 9), none⟩] false [0, 1, 10])
   (.cond (.t 10)
    (.seq
     (.seq
      (.region [] [] [
        ⟨(some 11), .mov (.t 0), none⟩,
        ⟨(some 12), .len (.t 11), none⟩,
        ⟨(some 13), .mov (.t 1), none⟩,
        ⟨(some 14), .len (.t 13), none⟩,
        ⟨(some 15), .bin .lss 0 (.t 12) (.t 14), none⟩] false [15])
      (.cond (.t 15)
       (.seq
        (.region [] [] [
          ⟨(some 4), .mov (.c (.int .i64 (-1))), none⟩] false [4])
        .ret)
       .skip
       []))
    (.seq
     (.region [] [] [
       ⟨(some 4), .mov (.c (.int .i64 1)), none⟩] false [4])
     .ret))
    .skip
    [0, 1]))
 (.seq
  (.seq
   (.region [] [] [
     ⟨(some 16), .mov (.t 0), none⟩,
     ⟨(some 17), .len (.t 16), none⟩,
     ⟨(some 18), .bin .sub 0 (.t 17) (.c (.int .i64 1)), none⟩,
     ⟨(some 5), .mov (.t 18), none⟩] false [0, 1, 5])
   (.block 0
    (.loop
     (.seq
      (.seq
       (.region [] [] [
         ⟨(some 19), .mov (.t 5), none⟩,
         ⟨(some 20), .bin .geq 0 (.t 19) (.c (.int .i64 0)), none⟩] false [0, 1, 5, 20])
       (.cond (.t 20)
        .skip
        (.exit 0)
        [0, 1, 5]))
     (.seq
      (.block 1
       (.seq
        (.region [] [] [
          ⟨(some 23), .mov (.t 0), none⟩,
          ⟨(some 24), .mov (.t 5), none⟩,
          ⟨(some 25), .idxS .one (.t 23) (.t 24), none⟩,
          ⟨(some 26), .load .one (.t 25), none⟩,
          ⟨(some 27), .mov (.t 1), none⟩,
          ⟨(some 28), .mov (.t 5), none⟩,
          ⟨(some 29), .idxS .one (.t 27) (.t 28), none⟩,
          ⟨(some 30), .load .one (.t 29), none⟩,
          ⟨(some 31), .bin .neq 0 (.t 26) (.t 30), none⟩] true [0, 1, 5, 31])
        (.cond (.t 31)
         (.seq
          (.seq
           (.region [] [] [
             ⟨(some 32), .mov (.t 0), none⟩,
             ⟨(some 33), .mov (.t 5), none⟩,
             ⟨(some 34), .idxS .one (.t 32) (.t 33), none⟩,
             ⟨(some 35), .load .one (.t 34), none⟩,
             ⟨(some 36), .mov (.t 1), none⟩,
             ⟨(some 37), .mov (.t 5), none⟩,
             ⟨(some 38), .idxS .one (.t 36) (.t 37), none⟩,
             ⟨(some 39), .load .one (.t 38), none⟩,
             ⟨(some 40), .bin .lss 0 (.t 35) (.t 39), none⟩] true [40])
           (.cond (.t 40)
            (.seq
             (.region [] [] [
               ⟨(some 4), .mov (.c (.int .i64 (-1))), none⟩] false [4])
             .ret)
            .skip
            []))
         (.seq
          (.region [] [] [
            ⟨(some 4), .mov (.c (.int .i64 1)), none⟩] false [4])
          .ret))
         .skip
         [0, 1, 5]))
       [0, 1, 5])
      (.region [] [] [
        ⟨(some 21), .mov (.t 5), none⟩,
        ⟨(some 22), .bin .sub 0 (.t 21) (.c (.int .i64 1)), none⟩,
        ⟨(some 5), .mov (.t 22), none⟩] false [0, 1, 5])))
     [0, 1, 5])
    []))
 (.seq
  (.region [] [] [
    ⟨(some 4), .mov (.c (.int .i64 0)), none⟩] false [4])
  .ret)))),
 [.t 4]⟩
/-- spokeshave/num.One -/
def a170 : AFunc := ⟨
 (.seq
  (.region [] [] [
    ⟨(some 0), .alloc [.bool false, .slT true []], none⟩] false [0])
 (.seq
  (.region [] [] [
    ⟨(some 1), .mkSl [.int .u64 0] .one 1 [(0, .c (.int .u64 1))], none⟩,
    ⟨(some 2), .build [.bool false, .slT true []] [(1, 1, .t 1)], none⟩,
    ⟨none, .store 2 (.t 0) (.t 2), none⟩] false [0])
  .ret)),
 [.cell 0 (.many 2)]⟩
/-- (spokeshave/num.Int).Quo -/
def a171 : AFunc := ⟨
 (.seq
  (.region [] [] [
    ⟨(some 2), .box (.t 0), none⟩,
    ⟨(some 3), .box (.t 1), none⟩,
    ⟨(some 4), .alloc [.bool false, .slT true []], none⟩] false [2, 3, 4])
 (.seq
  (.region [] [] [
    ⟨(some 8), .load (.many 2) (.t 2), none⟩,
    ⟨(some 9), .load (.many 2) (.t 3), none⟩,
    ⟨(some 10), .call .pure false (.f 205) [.t 8, .t 9], none⟩,
    ⟨(some 7), .mov (.t 10), none⟩,
    ⟨(some 11), .ext 0 (.t 7), none⟩,
    ⟨(some 12), .ext 1 (.t 7), none⟩,
    ⟨(some 5), .alloc [.bool false, .slT true []], none⟩,
    ⟨(some 6), .alloc [.bool false, .slT true []], none⟩,
    ⟨none, .store 2 (.t 5) (.t 11), none⟩,
    ⟨none, .store 2 (.t 6) (.t 12), none⟩] false [4, 5])
 (.seq
  (.region [] [] [
    ⟨(some 13), .load (.many 2) (.t 5), none⟩,
    ⟨none, .store 2 (.t 4) (.t 13), none⟩] false [4])
  .ret))),
 [.cell 4 (.many 2)]⟩
/-- spokeshave/num.made -/
def a172 : AFunc := ⟨
 (.seq
  (.region [] [] [
    ⟨(some 4), .alloc [.bool false, .slT true []], none⟩] false [0, 1, 4])
 (.seq
  (.region [] [] [
    ⟨(some 6), .mov (.t 1), none⟩,
    ⟨(some 7), .len (.t 6), none⟩,
    ⟨(some 5), .mov (.t 7), none⟩] false [0, 1, 4, 5])
 (.seq
  (.block 0
   (.loop
    (.seq
     (.seq
      (.region [] [] [
        ⟨(some 8), .mov (.t 5), none⟩,
        ⟨(some 9), .bin .gtr 0 (.t 8) (.c (.int .i64 0)), none⟩,
        ⟨(some 10), .mov (.t 9), none⟩,
        ⟨(some 11), .mov (.t 1), (some (10, true))⟩,
        ⟨(some 12), .mov (.t 5), (some (10, true))⟩,
        ⟨(some 13), .bin .sub 0 (.t 12) (.c (.int .i64 1)), (some (10, true))⟩,
        ⟨(some 14), .idxS .one (.t 11) (.t 13), (some (10, true))⟩,
        ⟨(some 15), .load .one (.t 14), (some (10, true))⟩,
        ⟨(some 16), .bin .eql 0 (.t 15) (.c (.int .u64 0)), (some (10, true))⟩,
        ⟨(some 17), .pick (.t 10) (.t 16) (.c (.bool false)), none⟩] false [0, 1, 4, 5, 17])
      (.cond (.t 17)
       .skip
       (.exit 0)
       [0, 1, 4, 5]))
     (.block 1
      (.region [] [] [
        ⟨(some 18), .mov (.t 5), none⟩,
        ⟨(some 19), .bin .sub 0 (.t 18) (.c (.int .i64 1)), none⟩,
        ⟨(some 5), .mov (.t 19), none⟩] false [0, 1, 4, 5])
      [0, 1, 4, 5]))
    [0, 1, 4, 5])
   [0, 1, 4, 5])
 (.seq
  (.region [] [] [
    ⟨(some 20), .mov (.t 0), none⟩,
    ⟨(some 21), .mov (.t 20), none⟩,
    ⟨(some 22), .mov (.t 5), (some (21, true))⟩,
    ⟨(some 23), .bin .gtr 0 (.t 22) (.c (.int .i64 0)), (some (21, true))⟩,
    ⟨(some 24), .pick (.t 21) (.t 23) (.c (.bool false)), none⟩,
    ⟨(some 25), .mov (.t 1), none⟩,
    ⟨(some 26), .mov (.t 5), none⟩,
    ⟨(some 27), .mov (.t 5), none⟩,
    ⟨(some 28), .slice .one (.t 25) none (some (.t 26)) (some (.t 27)), none⟩,
    ⟨(some 29), .build [.bool false, .slT true []] [(0, 1, .t 24), (1, 1, .t 28)], none⟩,
    ⟨none, .store 2 (.t 4) (.t 29), none⟩] false [4])
  .ret)))),
 [.cell 4 (.many 2)]⟩
/-- (spokeshave/num.Int).Mul -/
def a173 : AFunc := ⟨
 (.seq
  (.region [] [] [
    ⟨(some 2), .box (.t 0), none⟩,
    ⟨(some 3), .box (.t 1), none⟩,
    ⟨(some 4), .alloc [.bool false, .slT true []], none⟩] false [2, 3, 4])
 (.seq
  (.region [] [] [
    ⟨(some 14), .fldA 1 .one (.t 2), none⟩,
    ⟨(some 15), .load .one (.t 14), none⟩,
    ⟨(some 16), .len (.t 15), none⟩,
    ⟨(some 17), .fldA 1 .one (.t 3), none⟩,
    ⟨(some 18), .load .one (.t 17), none⟩,
    ⟨(some 19), .len (.t 18), none⟩,
    ⟨(some 20), .bin .add 0 (.t 16) (.t 19), none⟩,
    ⟨(some 21), .mkSlice [.int .u64 0] .one 8 (.t 20) (.t 20), none⟩,
    ⟨(some 5), .mov (.t 21), none⟩] false [2, 3, 4, 5])
 (.seq
  (.seq
   (.region [] [] [
     ⟨(some 22), .fldA 1 .one (.t 2), none⟩,
     ⟨(some 23), .load .one (.t 22), none⟩,
     ⟨(some 24), .len (.t 23), none⟩,
     ⟨(some 25), .mov (.c (.int .i64 0)), none⟩] false [2, 3, 4, 5, 23, 24, 25])
   (.block 0
    (.loop
     (.seq
      (.region [] [] [
        ⟨(some 26), .bin .lss 0 (.t 25) (.t 24), none⟩] false [2, 3, 4, 5, 23, 24, 25, 26])
     (.seq
      (.cond (.t 26)
       .skip
       (.exit 0)
       [2, 3, 4, 5, 23, 24, 25])
     (.seq
      (.block 1
       (.seq
        (.region [] [] [
          ⟨(some 27), .mov (.t 25), none⟩,
          ⟨(some 28), .idxS .one (.t 23) (.t 25), none⟩,
          ⟨(some 29), .load .one (.t 28), none⟩,
          ⟨(some 6), .mov (.t 27), none⟩,
          ⟨(some 7), .mov (.t 29), none⟩] false [2, 3, 4, 5, 6, 7, 23, 24, 25])
       (.seq
        (.region [] [] [
          ⟨(some 8), .mov (.c (.int .u64 0)), none⟩] false [2, 3, 4, 5, 6, 7, 8, 23, 24, 25])
       (.seq
        (.seq
         (.region [] [] [
           ⟨(some 30), .fldA 1 .one (.t 3), none⟩,
           ⟨(some 31), .load .one (.t 30), none⟩,
           ⟨(some 32), .len (.t 31), none⟩,
           ⟨(some 33), .mov (.c (.int .i64 0)), none⟩] false [2, 3, 4, 5, 6, 7, 8, 23, 24, 25, 31, 32, 33])
         (.block 2
          (.loop
           (.seq
            (.region [] [] [
              ⟨(some 34), .bin .lss 0 (.t 33) (.t 32), none⟩] false [2, 3, 4, 5, 6, 7, 8, 23, 24, 25, 31, 32, 33, 34])
           (.seq
            (.cond (.t 34)
             .skip
             (.exit 2)
             [2, 3, 4, 5, 6, 7, 8, 23, 24, 25, 31, 32, 33])
           (.seq
            (.block 3
             (.seq
              (.region [] [] [
                ⟨(some 35), .mov (.t 33), none⟩,
                ⟨(some 36), .idxS .one (.t 31) (.t 33), none⟩,
                ⟨(some 37), .load .one (.t 36), none⟩,
                ⟨(some 9), .mov (.t 35), none⟩,
                ⟨(some 10), .mov (.t 37), none⟩] false [2, 3, 4, 5, 6, 7, 8, 9, 10, 23, 24, 25, 31, 32, 33])
             (.seq
              (.region [] [] [
                ⟨(some 39), .mov (.t 7), none⟩,
                ⟨(some 40), .mov (.t 10), none⟩,
                ⟨(some 41), .call .pure false (.f 206) [.t 39, .t 40], none⟩,
                ⟨(some 38), .mov (.t 41), none⟩,
                ⟨(some 42), .ext 0 (.t 38), none⟩,
                ⟨(some 43), .ext 1 (.t 38), none⟩,
                ⟨(some 11), .mov (.t 42), none⟩,
                ⟨(some 12), .mov (.t 43), none⟩] false [2, 3, 4, 5, 6, 7, 8, 9, 11, 12, 23, 24, 25, 31, 32, 33])
             (.seq
              (.region [] [] [
                ⟨(some 13), .mov (.c (.int .u64 0)), none⟩] false [2, 3, 4, 5, 6, 7, 8, 9, 11, 12, 23, 24, 25, 31, 32, 33])
             (.seq
              (.region [] [] [
                ⟨(some 45), .mov (.t 12), none⟩,
                ⟨(some 46), .mov (.t 5), none⟩,
                ⟨(some 47), .mov (.t 6), none⟩,
                ⟨(some 48), .mov (.t 9), none⟩,
                ⟨(some 49), .bin .add 0 (.t 47) (.t 48), none⟩,
                ⟨(some 50), .idxS .one (.t 46) (.t 49), none⟩,
                ⟨(some 51), .load .one (.t 50), none⟩,
                ⟨(some 52), .call .pure false (.f 207) [.t 45, .t 51, .c (.int .u64 0)], none⟩,
                ⟨(some 44), .mov (.t 52), none⟩,
                ⟨(some 53), .ext 0 (.t 44), none⟩,
                ⟨(some 54), .ext 1 (.t 44), none⟩,
                ⟨(some 12), .mov (.t 53), none⟩,
                ⟨(some 13), .mov (.t 54), none⟩] false [2, 3, 4, 5, 6, 7, 8, 9, 11, 12, 13, 23, 24, 25, 31, 32, 33])
             (.seq
              (.region [] [] [
                ⟨(some 55), .mov (.t 11), none⟩,
                ⟨(some 56), .mov (.t 13), none⟩,
                ⟨(some 57), .bin .add 0 (.t 55) (.t 56), none⟩,
                ⟨(some 11), .mov (.t 57), none⟩] false [2, 3, 4, 5, 6, 7, 8, 9, 11, 12, 23, 24, 25, 31, 32, 33])
             (.seq
              (.region [] [] [
                ⟨(some 59), .mov (.t 12), none⟩,
                ⟨(some 60), .mov (.t 8), none⟩,
                ⟨(some 61), .call .pure false (.f 207) [.t 59, .t 60, .c (.int .u64 0)], none⟩,
                ⟨(some 58), .mov (.t 61), none⟩,
                ⟨(some 62), .ext 0 (.t 58), none⟩,
                ⟨(some 63), .ext 1 (.t 58), none⟩,
                ⟨(some 12), .mov (.t 62), none⟩,
                ⟨(some 13), .mov (.t 63), none⟩] false [2, 3, 4, 5, 6, 7, 9, 11, 12, 13, 23, 24, 25, 31, 32, 33])
              (.region [] [] [
                ⟨(some 64), .mov (.t 5), none⟩,
                ⟨(some 65), .mov (.t 6), none⟩,
                ⟨(some 66), .mov (.t 9), none⟩,
                ⟨(some 67), .bin .add 0 (.t 65) (.t 66), none⟩,
                ⟨(some 68), .mov (.t 12), none⟩,
                ⟨(some 69), .mov (.t 11), none⟩,
                ⟨(some 70), .mov (.t 13), none⟩,
                ⟨(some 71), .bin .add 0 (.t 69) (.t 70), none⟩,
                ⟨(some 72), .idxS .one (.t 64) (.t 67), none⟩,
                ⟨none, .store 1 (.t 72) (.t 68), none⟩,
                ⟨(some 8), .mov (.t 71), none⟩] false [2, 3, 4, 5, 6, 7, 8, 23, 24, 25, 31, 32, 33])))))))
             [2, 3, 4, 5, 6, 7, 8, 23, 24, 25, 31, 32, 33])
            (.region [] [] [
              ⟨(some 73), .bin .add 0 (.t 33) (.c (.int .i64 1)), none⟩,
              ⟨(some 33), .mov (.t 73), none⟩] false [2, 3, 4, 5, 6, 7, 8, 23, 24, 25, 31, 32, 33]))))
           [2, 3, 4, 5, 6, 7, 8, 23, 24, 25, 31, 32, 33])
          [2, 3, 4, 5, 6, 8, 23, 24, 25]))
        (.region [] [] [
          ⟨(some 74), .mov (.t 5), none⟩,
          ⟨(some 75), .mov (.t 6), none⟩,
          ⟨(some 76), .fldA 1 .one (.t 3), none⟩,
          ⟨(some 77), .load .one (.t 76), none⟩,
          ⟨(some 78), .len (.t 77), none⟩,
          ⟨(some 79), .bin .add 0 (.t 75) (.t 78), none⟩,
          ⟨(some 80), .mov (.t 8), none⟩,
          ⟨(some 81), .idxS .one (.t 74) (.t 79), none⟩,
          ⟨none, .store 1 (.t 81) (.t 80), none⟩] false [2, 3, 4, 5, 23, 24, 25]))))
       [2, 3, 4, 5, 23, 24, 25])
      (.region [] [] [
        ⟨(some 82), .bin .add 0 (.t 25) (.c (.int .i64 1)), none⟩,
        ⟨(some 25), .mov (.t 82), none⟩] false [2, 3, 4, 5, 23, 24, 25]))))
     [2, 3, 4, 5, 23, 24, 25])
    [2, 3, 4, 5]))
 (.seq
  (.region [5] [] [
    ⟨(some 83), .fldA 0 .one (.t 2), none⟩,
    ⟨(some 84), .load .one (.t 83), none⟩,
    ⟨(some 85), .fldA 0 .one (.t 3), none⟩,
    ⟨(some 86), .load .one (.t 85), none⟩,
    ⟨(some 87), .bin .neq 1 (.t 84) (.t 86), none⟩,
    ⟨(some 88), .mov (.t 5), none⟩,
    ⟨(some 89), .call .pure false (.f 172) [.t 87, .t 88], none⟩,
    ⟨none, .store 2 (.t 4) (.t 89), none⟩] false [4])
  .ret)))),
 [.cell 4 (.many 2)]⟩
/-- (spokeshave/num.Int).Cmp -/
def a174 : AFunc := ⟨
 (.seq
  (.region [] [] [
    ⟨(some 2), .box (.t 0), none⟩,
    ⟨(some 3), .box (.t 1), none⟩,
    ⟨(some 4), .mov (.c (.int .i64 0)), none⟩] false [2, 3])
 (.seq
  (.region [] [] [
    ⟨(some 5), .load (.many 2) (.t 2), none⟩,
    ⟨(some 6), .load (.many 2) (.t 3), none⟩,
    ⟨(some 7), .call .pure false (.f 208) [.t 5, .t 6], none⟩,
    ⟨(some 8), .call .pure false (.f 167) [.t 7], none⟩,
    ⟨(some 4), .mov (.t 8), none⟩] false [4])
  .ret)),
 [.t 4]⟩
/-- spokeshave/flat.cross -/
def a175 : AFunc := ⟨
 (.seq
  (.region [] [] [
    ⟨(some 2), .box (.t 0), none⟩,
    ⟨(some 3), .box (.t 1), none⟩,
    ⟨(some 4), .alloc [.bool false, .slT true [], .bool false, .slT true []], none⟩] false [2, 3, 4])
 (.seq
  (.region [] [] [
    ⟨(some 5), .idxA 2 (.many 4) (.t 2) (.c (.int .i64 0)), none⟩,
    ⟨(some 6), .load (.many 4) (.t 5), none⟩,
    ⟨(some 7), .idxA 2 (.many 4) (.t 3) (.c (.int .i64 1)), none⟩,
    ⟨(some 8), .load (.many 4) (.t 7), none⟩,
    ⟨(some 9), .call .pure false (.f 209) [.t 6, .t 8], none⟩,
    ⟨(some 10), .idxA 2 (.many 4) (.t 2) (.c (.int .i64 1)), none⟩,
    ⟨(some 11), .load (.many 4) (.t 10), none⟩,
    ⟨(some 12), .idxA 2 (.many 4) (.t 3) (.c (.int .i64 0)), none⟩,
    ⟨(some 13), .load (.many 4) (.t 12), none⟩,
    ⟨(some 14), .call .pure false (.f 209) [.t 11, .t 13], none⟩,
    ⟨(some 15), .call .pure false (.f 210) [.t 9, .t 14], none⟩,
    ⟨none, .store 4 (.t 4) (.t 15), none⟩] true [4])
  .ret)),
 [.cell 4 (.many 4)]⟩
/-- spokeshave/flat.sub -/
def a176 : AFunc := ⟨
 (.seq
  (.region [] [] [
    ⟨(some 2), .box (.t 0), none⟩,
    ⟨(some 3), .box (.t 1), none⟩,
    ⟨(some 4), .alloc [.bool false, .slT true [], .bool false, .slT true [], .bool false, .slT true [], .bool false, .slT true []], none⟩] false [2, 3, 4])
 (.seq
  (.region [] [] [
    ⟨(some 5), .idxA 2 (.many 4) (.t 2) (.c (.int .i64 0)), none⟩,
    ⟨(some 6), .load (.many 4) (.t 5), none⟩,
    ⟨(some 7), .idxA 2 (.many 4) (.t 3) (.c (.int .i64 0)), none⟩,
    ⟨(some 8), .load (.many 4) (.t 7), none⟩,
    ⟨(some 9), .call .pure false (.f 210) [.t 6, .t 8], none⟩,
    ⟨(some 10), .idxA 2 (.many 4) (.t 2) (.c (.int .i64 1)), none⟩,
    ⟨(some 11), .load (.many 4) (.t 10), none⟩,
    ⟨(some 12), .idxA 2 (.many 4) (.t 3) (.c (.int .i64 1)), none⟩,
    ⟨(some 13), .load (.many 4) (.t 12), none⟩,
    ⟨(some 14), .call .pure false (.f 210) [.t 11, .t 13], none⟩,
    ⟨(some 15), .build [.bool false, .slT true [], .bool false, .slT true [], .bool false, .slT true [], .bool false, .slT true []] [(0, 4, .t 9), (4, 4, .t 14)], none⟩,
    ⟨none, .store 8 (.t 4) (.t 15), none⟩] true [4])
  .ret)),
 [.cell 4 (.many 8)]⟩
/-- (spokeshave/num.Rat).Sign -/
def a177 : AFunc := ⟨
 (.seq
  (.region [] [] [
    ⟨(some 1), .box (.t 0), none⟩,
    ⟨(some 2), .mov (.c (.int .i64 0)), none⟩] false [1])
 (.seq
  (.region [] [] [
    ⟨(some 3), .fldA 0 (.many 2) (.t 1), none⟩,
    ⟨(some 4), .load (.many 2) (.t 3), none⟩,
    ⟨(some 5), .call .pure false (.f 167) [.t 4], none⟩,
    ⟨(some 2), .mov (.t 5), none⟩] false [2])
  .ret)),
 [.t 2]⟩
/-- slices.siftDownCmpFunc[spokeshave/profile.Spot] -/
def a191 : AFunc := ⟨
 (.seq
  (.region [] [] [
    ⟨(some 12), .mov (.t 1), none⟩,
    ⟨(some 10), .mov (.t 12), none⟩] false [0, 2, 3, 4, 10])
  (.block 0
   (.loop
    (.block 1
     (.seq
      (.region [] [] [
        ⟨(some 13), .mov (.t 10), none⟩,
        ⟨(some 14), .bin .mul 0 (.c (.int .i64 2)) (.t 13), none⟩,
        ⟨(some 15), .bin .add 0 (.t 14) (.c (.int .i64 1)), none⟩,
        ⟨(some 11), .mov (.t 15), none⟩] false [0, 2, 3, 4, 10, 11])
     (.seq
      (.seq
       (.region [] [] [
         ⟨(some 16), .mov (.t 11), none⟩,
         ⟨(some 17), .mov (.t 2), none⟩,
         ⟨(some 18), .bin .geq 0 (.t 16) (.t 17), none⟩] false [0, 2, 3, 4, 10, 11, 18])
       (.cond (.t 18)
        (.exit 0)
        .skip
        [0, 2, 3, 4, 10, 11]))
     (.seq
      (.seq
       (.region [] [] [
         ⟨(some 19), .mov (.t 11), none⟩,
         ⟨(some 20), .bin .add 0 (.t 19) (.c (.int .i64 1)), none⟩,
         ⟨(some 21), .mov (.t 2), none⟩,
         ⟨(some 22), .bin .lss 0 (.t 20) (.t 21), none⟩,
         ⟨(some 23), .mov (.t 22), none⟩,
         ⟨(some 24), .mov (.t 4), (some (23, true))⟩,
         ⟨(some 25), .mov (.t 0), (some (23, true))⟩,
         ⟨(some 26), .mov (.t 3), (some (23, true))⟩,
         ⟨(some 27), .mov (.t 11), (some (23, true))⟩,
         ⟨(some 28), .bin .add 0 (.t 26) (.t 27), (some (23, true))⟩,
         ⟨(some 29), .idxS (.many 2) (.t 25) (.t 28), (some (23, true))⟩,
         ⟨(some 30), .load (.many 2) (.t 29), (some (23, true))⟩,
         ⟨(some 31), .mov (.t 0), (some (23, true))⟩,
         ⟨(some 32), .mov (.t 3), (some (23, true))⟩,
         ⟨(some 33), .mov (.t 11), (some (23, true))⟩,
         ⟨(some 34), .bin .add 0 (.t 32) (.t 33), (some (23, true))⟩,
         ⟨(some 35), .bin .add 0 (.t 34) (.c (.int .i64 1)), (some (23, true))⟩,
         ⟨(some 36), .idxS (.many 2) (.t 31) (.t 35), (some (23, true))⟩,
         ⟨(some 37), .load (.many 2) (.t 36), (some (23, true))⟩,
         ⟨(some 38), .call .auto false (.t 24) [.t 30, .t 37], (some (23, true))⟩,
         ⟨(some 39), .bin .lss 0 (.t 38) (.c (.int .i64 0)), (some (23, true))⟩,
         ⟨(some 40), .pick (.t 23) (.t 39) (.c (.bool false)), none⟩] true [0, 2, 3, 4, 10, 11, 40])
       (.cond (.t 40)
        (.region [] [] [
          ⟨(some 41), .mov (.t 11), none⟩,
          ⟨(some 42), .bin .add 0 (.t 41) (.c (.int .i64 1)), none⟩,
          ⟨(some 11), .mov (.t 42), none⟩] false [0, 2, 3, 4, 10, 11])
        .skip
        [0, 2, 3, 4, 10, 11]))
     (.seq
      (.seq
       (.region [] [] [
         ⟨(some 43), .mov (.t 4), none⟩,
         ⟨(some 44), .mov (.t 0), none⟩,
         ⟨(some 45), .mov (.t 3), none⟩,
         ⟨(some 46), .mov (.t 10), none⟩,
         ⟨(some 47), .bin .add 0 (.t 45) (.t 46), none⟩,
         ⟨(some 48), .idxS (.many 2) (.t 44) (.t 47), none⟩,
         ⟨(some 49), .load (.many 2) (.t 48), none⟩,
         ⟨(some 50), .mov (.t 0), none⟩,
         ⟨(some 51), .mov (.t 3), none⟩,
         ⟨(some 52), .mov (.t 11), none⟩,
         ⟨(some 53), .bin .add 0 (.t 51) (.t 52), none⟩,
         ⟨(some 54), .idxS (.many 2) (.t 50) (.t 53), none⟩,
         ⟨(some 55), .load (.many 2) (.t 54), none⟩,
         ⟨(some 56), .call .auto false (.t 43) [.t 49, .t 55], none⟩,
         ⟨(some 57), .bin .lss 0 (.t 56) (.c (.int .i64 0)), none⟩,
         ⟨(some 58), .un .not (.t 57), none⟩] true [0, 2, 3, 4, 10, 11, 58])
       (.cond (.t 58)
        .ret
        .skip
        [0, 2, 3, 4, 10, 11]))
     (.seq
      (.region [] [] [
        ⟨(some 59), .mov (.t 0), none⟩,
        ⟨(some 60), .mov (.t 3), none⟩,
        ⟨(some 61), .mov (.t 10), none⟩,
        ⟨(some 62), .bin .add 0 (.t 60) (.t 61), none⟩,
        ⟨(some 63), .mov (.t 0), none⟩,
        ⟨(some 64), .mov (.t 3), none⟩,
        ⟨(some 65), .mov (.t 11), none⟩,
        ⟨(some 66), .bin .add 0 (.t 64) (.t 65), none⟩,
        ⟨(some 67), .mov (.t 0), none⟩,
        ⟨(some 68), .mov (.t 3), none⟩,
        ⟨(some 69), .mov (.t 11), none⟩,
        ⟨(some 70), .bin .add 0 (.t 68) (.t 69), none⟩,
        ⟨(some 71), .idxS (.many 2) (.t 67) (.t 70), none⟩,
        ⟨(some 72), .load (.many 2) (.t 71), none⟩,
        ⟨(some 73), .mov (.t 0), none⟩,
        ⟨(some 74), .mov (.t 3), none⟩,
        ⟨(some 75), .mov (.t 10), none⟩,
        ⟨(some 76), .bin .add 0 (.t 74) (.t 75), none⟩,
        ⟨(some 77), .idxS (.many 2) (.t 73) (.t 76), none⟩,
        ⟨(some 78), .load (.many 2) (.t 77), none⟩,
        ⟨(some 79), .idxS (.many 2) (.t 59) (.t 62), none⟩,
        ⟨none, .store 2 (.t 79) (.t 72), none⟩,
        ⟨(some 80), .idxS (.many 2) (.t 63) (.t 66), none⟩,
        ⟨none, .store 2 (.t 80) (.t 78), none⟩] true [0, 2, 3, 4, 11])
      (.region [] [] [
        ⟨(some 81), .mov (.t 11), none⟩,
        ⟨(some 10), .mov (.t 81), none⟩] false [0, 2, 3, 4, 10]))))))
     [0, 2, 3, 4, 10])
    [0, 2, 3, 4, 10])
   [])),
 []⟩
/-- slices.nextPowerOfTwo -/
def a192 : AFunc := ⟨
 (.seq
  (.region [] [] [
    ⟨(some 2), .mov (.c (.int .u64 0)), none⟩] false [0])
 (.seq
  (.region [] [] [
    ⟨(some 3), .mov (.t 0), none⟩,
    ⟨(some 4), .conv .u64 (.t 3), none⟩,
    ⟨(some 5), .call .pure false (.f 94) [.t 4], none⟩,
    ⟨(some 6), .bin .shl 0 (.c (.int .u64 1)) (.t 5), none⟩,
    ⟨(some 2), .mov (.t 6), none⟩] false [2])
  .ret)),
 [.t 2]⟩
/-- (*slices.xorshift).Next -/
def a193 : AFunc := ⟨
 (.seq
  (.region [] [] [
    ⟨(some 2), .mov (.c (.int .u64 0)), none⟩] false [0])
 (.seq
  (.region [] [] [
    ⟨(some 3), .mov (.t 0), none⟩,
    ⟨(some 4), .nilchk (.t 3), none⟩,
    ⟨(some 5), .load .one (.t 4), none⟩,
    ⟨(some 6), .mov (.t 0), none⟩,
    ⟨(some 7), .nilchk (.t 6), none⟩,
    ⟨(some 8), .load .one (.t 7), none⟩,
    ⟨(some 9), .bin .shl 0 (.t 8) (.c (.int .u64 13)), none⟩,
    ⟨(some 10), .bin .xor 0 (.t 5) (.t 9), none⟩,
    ⟨(some 11), .nilchk (.t 3), none⟩,
    ⟨none, .store 1 (.t 11) (.t 10), none⟩] true [0])
 (.seq
  (.region [] [] [
    ⟨(some 12), .mov (.t 0), none⟩,
    ⟨(some 13), .nilchk (.t 12), none⟩,
    ⟨(some 14), .load .one (.t 13), none⟩,
    ⟨(some 15), .mov (.t 0), none⟩,
    ⟨(some 16), .nilchk (.t 15), none⟩,
    ⟨(some 17), .load .one (.t 16), none⟩,
    ⟨(some 18), .bin .shr 0 (.t 17) (.c (.int .u64 7)), none⟩,
    ⟨(some 19), .bin .xor 0 (.t 14) (.t 18), none⟩,
    ⟨(some 20), .nilchk (.t 12), none⟩,
    ⟨none, .store 1 (.t 20) (.t 19), none⟩] true [0])
 (.seq
  (.region [] [] [
    ⟨(some 21), .mov (.t 0), none⟩,
    ⟨(some 22), .nilchk (.t 21), none⟩,
    ⟨(some 23), .load .one (.t 22), none⟩,
    ⟨(some 24), .mov (.t 0), none⟩,
    ⟨(some 25), .nilchk (.t 24), none⟩,
    ⟨(some 26), .load .one (.t 25), none⟩,
    ⟨(some 27), .bin .shl 0 (.t 26) (.c (.int .u64 17)), none⟩,
    ⟨(some 28), .bin .xor 0 (.t 23) (.t 27), none⟩,
    ⟨(some 29), .nilchk (.t 21), none⟩,
    ⟨none, .store 1 (.t 29) (.t 28), none⟩] true [0])
 (.seq
  (.region [] [] [
    ⟨(some 30), .mov (.t 0), none⟩,
    ⟨(some 31), .nilchk (.t 30), none⟩,
    ⟨(some 32), .load .one (.t 31), none⟩,
    ⟨(some 2), .mov (.t 32), none⟩] false [2])
  .ret))))),
 [.t 2]⟩
/-- slices.medianAdjacentCmpFunc[spokeshave/profile.Spot] -/
def a194 : AFunc := ⟨
 (.seq
  (.region [] [] [
    ⟨(some 8), .mov (.c (.int .i64 0)), none⟩] false [0, 1, 2, 3])
 (.seq
  (.region [] [] [
    ⟨(some 9), .mov (.t 0), none⟩,
    ⟨(some 10), .mov (.t 1), none⟩,
    ⟨(some 11), .bin .sub 0 (.t 10) (.c (.int .i64 1)), none⟩,
    ⟨(some 12), .mov (.t 1), none⟩,
    ⟨(some 13), .mov (.t 1), none⟩,
    ⟨(some 14), .bin .add 0 (.t 13) (.c (.int .i64 1)), none⟩,
    ⟨(some 15), .mov (.t 2), none⟩,
    ⟨(some 16), .mov (.t 3), none⟩,
    ⟨(some 17), .call .inl false (.f 195) [.t 9, .t 11, .t 12, .t 14, .t 15, .t 16], none⟩,
    ⟨(some 8), .mov (.t 17), none⟩] false [8])
  .ret)),
 [.t 8]⟩
/-- slices.medianCmpFunc[spokeshave/profile.Spot] -/
def a195 : AFunc := ⟨
 (.seq
  (.region [] [] [
    ⟨(some 12), .mov (.c (.int .i64 0)), none⟩] false [0, 1, 2, 3, 4, 5])
 (.seq
  (.region [] [] [
    ⟨(some 14), .mov (.t 0), none⟩,
    ⟨(some 15), .mov (.t 1), none⟩,
    ⟨(some 16), .mov (.t 2), none⟩,
    ⟨(some 17), .mov (.t 4), none⟩,
    ⟨(some 18), .mov (.t 5), none⟩,
    ⟨(some 19), .call .inl false (.f 224) [.t 14, .t 15, .t 16, .t 17, .t 18], none⟩,
    ⟨(some 13), .mov (.t 19), none⟩,
    ⟨(some 20), .ext 0 (.t 13), none⟩,
    ⟨(some 21), .ext 1 (.t 13), none⟩,
    ⟨(some 1), .mov (.t 20), none⟩,
    ⟨(some 2), .mov (.t 21), none⟩] false [0, 1, 2, 3, 4, 5])
 (.seq
  (.region [] [] [
    ⟨(some 23), .mov (.t 0), none⟩,
    ⟨(some 24), .mov (.t 2), none⟩,
    ⟨(some 25), .mov (.t 3), none⟩,
    ⟨(some 26), .mov (.t 4), none⟩,
    ⟨(some 27), .mov (.t 5), none⟩,
    ⟨(some 28), .call .inl false (.f 224) [.t 23, .t 24, .t 25, .t 26, .t 27], none⟩,
    ⟨(some 22), .mov (.t 28), none⟩,
    ⟨(some 29), .ext 0 (.t 22), none⟩,
    ⟨(some 30), .ext 1 (.t 22), none⟩,
    ⟨(some 2), .mov (.t 29), none⟩,
    ⟨(some 3), .mov (.t 30), none⟩] false [0, 1, 2, 4, 5])
 (.seq
  (.region [] [] [
    ⟨(some 32), .mov (.t 0), none⟩,
    ⟨(some 33), .mov (.t 1), none⟩,
    ⟨(some 34), .mov (.t 2), none⟩,
    ⟨(some 35), .mov (.t 4), none⟩,
    ⟨(some 36), .mov (.t 5), none⟩,
    ⟨(some 37), .call .inl false (.f 224) [.t 32, .t 33, .t 34, .t 35, .t 36], none⟩,
    ⟨(some 31), .mov (.t 37), none⟩,
    ⟨(some 38), .ext 0 (.t 31), none⟩,
    ⟨(some 39), .ext 1 (.t 31), none⟩,
    ⟨(some 1), .mov (.t 38), none⟩,
    ⟨(some 2), .mov (.t 39), none⟩] false [2])
 (.seq
  (.region [] [] [
    ⟨(some 40), .mov (.t 2), none⟩,
    ⟨(some 12), .mov (.t 40), none⟩] false [12])
  .ret))))),
 [.t 12]⟩
/-- cmp.isNaN[int64] -/
def a196 : AFunc := ⟨
 (.seq
  (.region [] [] [
    ⟨(some 2), .mov (.c (.bool false)), none⟩] false [0])
 (.seq
  (.region [] [] [
    ⟨(some 3), .mov (.t 0), none⟩,
    ⟨(some 4), .mov (.t 0), none⟩,
    ⟨(some 5), .bin .neq 0 (.t 3) (.t 4), none⟩,
    ⟨(some 2), .mov (.t 5), none⟩] false [2])
  .ret)),
 [.t 2]⟩
/-- (spokeshave/profile.segment).crosses$1 -/
def a197 : AFunc := ⟨
 (.seq
  (.region [] [] [
    ⟨(some 2), .box (.t 0), none⟩,
    ⟨(some 3), .box (.t 1), none⟩,
    ⟨(some 4), .mov (.c (.int .i64 0)), none⟩] false [2, 3])
 (.seq
  (.region [] [] [
    ⟨(some 5), .idxA 2 (.many 2) (.t 2) (.c (.int .i64 1)), none⟩,
    ⟨(some 6), .load (.many 2) (.t 5), none⟩,
    ⟨(some 7), .idxA 2 (.many 2) (.t 2) (.c (.int .i64 0)), none⟩,
    ⟨(some 8), .load (.many 2) (.t 7), none⟩,
    ⟨(some 9), .call .pure false (.f 97) [.t 6, .t 8], none⟩,
    ⟨(some 10), .load (.many 2) (.t 3), none⟩,
    ⟨(some 11), .idxA 2 (.many 2) (.t 2) (.c (.int .i64 0)), none⟩,
    ⟨(some 12), .load (.many 2) (.t 11), none⟩,
    ⟨(some 13), .call .pure false (.f 97) [.t 10, .t 12], none⟩,
    ⟨(some 14), .call .pure false (.f 96) [.t 9, .t 13], none⟩,
    ⟨(some 15), .min [.c (.int .i64 1), .t 14], none⟩,
    ⟨(some 16), .max [.c (.int .i64 (-1)), .t 15], none⟩,
    ⟨(some 4), .mov (.t 16), none⟩] true [4])
  .ret)),
 [.t 4]⟩
/-- (spokeshave/profile.net).next$1 -/
def a198 : AFunc := ⟨
 (.seq
  (.region [] [] [
    ⟨(some 3), .box (.t 0), none⟩,
    ⟨(some 4), .mov (.c (.bool false)), none⟩] false [1, 2, 3])
 (.seq
  (.region [] [] [
    ⟨(some 5), .load (.many 2) (.t 3), none⟩,
    ⟨(some 6), .load (.many 2) (.t 1), none⟩,
    ⟨(some 7), .call .pure false (.f 97) [.t 5, .t 6], none⟩,
    ⟨(some 8), .load (.many 2) (.t 2), none⟩,
    ⟨(some 9), .call .pure false (.f 199) [.t 7, .t 8], none⟩,
    ⟨(some 10), .bin .lss 0 (.t 9) (.c (.int .i64 0)), none⟩,
    ⟨(some 4), .mov (.t 10), none⟩] true [4])
  .ret)),
 [.t 4]⟩
/-- spokeshave/profile.angle -/
def a199 : AFunc := ⟨
 (.seq
  (.region [] [] [
    ⟨(some 2), .box (.t 0), none⟩,
    ⟨(some 3), .box (.t 1), none⟩,
    ⟨(some 4), .mov (.c (.int .i64 0)), none⟩] false [2, 3])
 (.seq
  (.seq
   (.region [] [] [
     ⟨(some 7), .load (.many 2) (.t 2), none⟩,
     ⟨(some 8), .call .pure false (.f 225) [.t 7], none⟩,
     ⟨(some 9), .load (.many 2) (.t 3), none⟩,
     ⟨(some 10), .call .pure false (.f 225) [.t 9], none⟩,
     ⟨(some 5), .mov (.t 8), none⟩,
     ⟨(some 6), .mov (.t 10), none⟩] true [2, 3, 5, 6])
  (.seq
   (.region [] [] [
     ⟨(some 11), .mov (.t 5), none⟩,
     ⟨(some 12), .mov (.t 6), none⟩,
     ⟨(some 13), .bin .neq 0 (.t 11) (.t 12), none⟩] false [2, 3, 5, 6, 13])
   (.cond (.t 13)
    (.seq
     (.region [] [] [
       ⟨(some 14), .mov (.t 5), none⟩,
       ⟨(some 15), .mov (.t 6), none⟩,
       ⟨(some 16), .bin .sub 0 (.t 14) (.t 15), none⟩,
       ⟨(some 4), .mov (.t 16), none⟩] false [4])
     .ret)
    .skip
    [2, 3])))
 (.seq
  (.region [] [] [
    ⟨(some 17), .load (.many 2) (.t 2), none⟩,
    ⟨(some 18), .load (.many 2) (.t 3), none⟩,
    ⟨(some 19), .call .pure false (.f 96) [.t 17, .t 18], none⟩,
    ⟨(some 20), .un .neg (.t 19), none⟩,
    ⟨(some 4), .mov (.t 20), none⟩] false [4])
  .ret))),
 [.t 4]⟩
/-- slices.pdqsortCmpFunc[[]spokeshave/profile.Spot] -/
def a200 : AFunc := ⟨
 (.seq
  (.region [] [] [
    ⟨(some 10), .mov (.c (.bool true)), none⟩] false [0, 1, 2, 3, 4, 10])
 (.seq
  (.region [] [] [
    ⟨(some 11), .mov (.c (.bool true)), none⟩] false [0, 1, 2, 3, 4, 10, 11])
  (.block 0
   (.loop
    (.block 1
     (.seq
      (.region [] [] [
        ⟨(some 21), .mov (.t 2), none⟩,
        ⟨(some 22), .mov (.t 1), none⟩,
        ⟨(some 23), .bin .sub 0 (.t 21) (.t 22), none⟩,
        ⟨(some 12), .mov (.t 23), none⟩] false [0, 1, 2, 3, 4, 10, 11, 12])
     (.seq
      (.seq
       (.region [] [] [
         ⟨(some 24), .mov (.t 12), none⟩,
         ⟨(some 25), .bin .leq 0 (.t 24) (.c (.int .i64 12)), none⟩] false [0, 1, 2, 3, 4, 10, 11, 12, 25])
       (.cond (.t 25)
        (.seq
         (.region [] [] [
           ⟨(some 26), .mov (.t 0), none⟩,
           ⟨(some 27), .mov (.t 1), none⟩,
           ⟨(some 28), .mov (.t 2), none⟩,
           ⟨(some 29), .mov (.t 4), none⟩,
           ⟨(some 30), .call .inl false (.f 226) [.t 26, .t 27, .t 28, .t 29], none⟩] false [])
         .ret)
        .skip
        [0, 1, 2, 3, 4, 10, 11, 12]))
     (.seq
      (.seq
       (.region [] [] [
         ⟨(some 31), .mov (.t 3), none⟩,
         ⟨(some 32), .bin .eql 0 (.t 31) (.c (.int .i64 0)), none⟩] false [0, 1, 2, 3, 4, 10, 11, 12, 32])
       (.cond (.t 32)
        (.seq
         (.region [] [] [
           ⟨(some 33), .mov (.t 0), none⟩,
           ⟨(some 34), .mov (.t 1), none⟩,
           ⟨(some 35), .mov (.t 2), none⟩,
           ⟨(some 36), .mov (.t 4), none⟩,
           ⟨(some 37), .call .inl false (.f 227) [.t 33, .t 34, .t 35, .t 36], none⟩] false [])
         .ret)
        .skip
        [0, 1, 2, 3, 4, 10, 11, 12]))
     (.seq
      (.seq
       (.region [] [] [
         ⟨(some 38), .mov (.t 10), none⟩,
         ⟨(some 39), .un .not (.t 38), none⟩] false [0, 1, 2, 3, 4, 10, 11, 12, 39])
       (.cond (.t 39)
        (.seq
         (.region [] [] [
           ⟨(some 40), .mov (.t 0), none⟩,
           ⟨(some 41), .mov (.t 1), none⟩,
           ⟨(some 42), .mov (.t 2), none⟩,
           ⟨(some 43), .mov (.t 4), none⟩,
           ⟨(some 44), .call .inl false (.f 228) [.t 40, .t 41, .t 42, .t 43], none⟩] false [0, 1, 2, 3, 4, 10, 11, 12])
         (.region [] [] [
           ⟨(some 45), .mov (.t 3), none⟩,
           ⟨(some 46), .bin .sub 0 (.t 45) (.c (.int .i64 1)), none⟩,
           ⟨(some 3), .mov (.t 46), none⟩] false [0, 1, 2, 3, 4, 10, 11, 12]))
        .skip
        [0, 1, 2, 3, 4, 10, 11, 12]))
     (.seq
      (.region [] [] [
        ⟨(some 48), .mov (.t 0), none⟩,
        ⟨(some 49), .mov (.t 1), none⟩,
        ⟨(some 50), .mov (.t 2), none⟩,
        ⟨(some 51), .mov (.t 4), none⟩,
        ⟨(some 52), .call .inl false (.f 229) [.t 48, .t 49, .t 50, .t 51], none⟩,
        ⟨(some 47), .mov (.t 52), none⟩,
        ⟨(some 53), .ext 0 (.t 47), none⟩,
        ⟨(some 54), .ext 1 (.t 47), none⟩,
        ⟨(some 13), .mov (.t 53), none⟩,
        ⟨(some 14), .mov (.t 54), none⟩] false [0, 1, 2, 3, 4, 10, 11, 12, 13, 14])
     (.seq
      (.seq
       (.region [] [] [
         ⟨(some 55), .mov (.t 14), none⟩,
         ⟨(some 56), .bin .eql 0 (.t 55) (.c (.int .i64 2)), none⟩] false [0, 1, 2, 3, 4, 10, 11, 12, 13, 14, 56])
       (.cond (.t 56)
        (.seq
         (.region [] [] [
           ⟨(some 57), .mov (.t 0), none⟩,
           ⟨(some 58), .mov (.t 1), none⟩,
           ⟨(some 59), .mov (.t 2), none⟩,
           ⟨(some 60), .mov (.t 4), none⟩,
           ⟨(some 61), .call .inl false (.f 230) [.t 57, .t 58, .t 59, .t 60], none⟩] false [0, 1, 2, 3, 4, 10, 11, 12, 13])
        (.seq
         (.region [] [] [
           ⟨(some 62), .mov (.t 2), none⟩,
           ⟨(some 63), .bin .sub 0 (.t 62) (.c (.int .i64 1)), none⟩,
           ⟨(some 64), .mov (.t 13), none⟩,
           ⟨(some 65), .mov (.t 1), none⟩,
           ⟨(some 66), .bin .sub 0 (.t 64) (.t 65), none⟩,
           ⟨(some 67), .bin .sub 0 (.t 63) (.t 66), none⟩,
           ⟨(some 13), .mov (.t 67), none⟩] false [0, 1, 2, 3, 4, 10, 11, 12, 13])
         (.region [] [] [
           ⟨(some 14), .mov (.c (.int .i64 1)), none⟩] false [0, 1, 2, 3, 4, 10, 11, 12, 13, 14])))
        .skip
        [0, 1, 2, 3, 4, 10, 11, 12, 13, 14]))
     (.seq
      (.seq
       (.region [] [] [
         ⟨(some 68), .mov (.t 10), none⟩,
         ⟨(some 69), .mov (.t 68), none⟩,
         ⟨(some 70), .mov (.t 11), (some (69, true))⟩,
         ⟨(some 71), .pick (.t 69) (.t 70) (.c (.bool false)), none⟩,
         ⟨(some 72), .mov (.t 71), none⟩,
         ⟨(some 73), .mov (.t 14), (some (72, true))⟩,
         ⟨(some 74), .bin .eql 0 (.t 73) (.c (.int .i64 1)), (some (72, true))⟩,
         ⟨(some 75), .pick (.t 72) (.t 74) (.c (.bool false)), none⟩] false [0, 1, 2, 3, 4, 10, 11, 12, 13, 75])
       (.cond (.t 75)
        (.seq
         (.region [] [] [
           ⟨(some 76), .mov (.t 0), none⟩,
           ⟨(some 77), .mov (.t 1), none⟩,
           ⟨(some 78), .mov (.t 2), none⟩,
           ⟨(some 79), .mov (.t 4), none⟩,
           ⟨(some 80), .call .inl false (.f 231) [.t 76, .t 77, .t 78, .t 79], none⟩] false [0, 1, 2, 3, 4, 10, 11, 12, 13, 80])
         (.cond (.t 80)
          .ret
          .skip
          [0, 1, 2, 3, 4, 10, 11, 12, 13]))
        .skip
        [0, 1, 2, 3, 4, 10, 11, 12, 13]))
     (.seq
      (.seq
       (.region [] [] [
         ⟨(some 81), .mov (.t 1), none⟩,
         ⟨(some 82), .bin .gtr 0 (.t 81) (.c (.int .i64 0)), none⟩,
         ⟨(some 83), .mov (.t 82), none⟩,
         ⟨(some 84), .mov (.t 4), (some (83, true))⟩,
         ⟨(some 85), .mov (.t 0), (some (83, true))⟩,
         ⟨(some 86), .mov (.t 1), (some (83, true))⟩,
         ⟨(some 87), .bin .sub 0 (.t 86) (.c (.int .i64 1)), (some (83, true))⟩,
         ⟨(some 88), .idxS .one (.t 85) (.t 87), (some (83, true))⟩,
         ⟨(some 89), .load .one (.t 88), (some (83, true))⟩,
         ⟨(some 90), .mov (.t 0), (some (83, true))⟩,
         ⟨(some 91), .mov (.t 13), (some (83, true))⟩,
         ⟨(some 92), .idxS .one (.t 90) (.t 91), (some (83, true))⟩,
         ⟨(some 93), .load .one (.t 92), (some (83, true))⟩,
         ⟨(some 94), .call .auto false (.t 84) [.t 89, .t 93], (some (83, true))⟩,
         ⟨(some 95), .bin .lss 0 (.t 94) (.c (.int .i64 0)), (some (83, true))⟩,
         ⟨(some 96), .un .not (.t 95), (some (83, true))⟩,
         ⟨(some 97), .pick (.t 83) (.t 96) (.c (.bool false)), none⟩] true [0, 1, 2, 3, 4, 10, 11, 12, 13, 97])
       (.cond (.t 97)
        (.seq
         (.region [] [] [
           ⟨(some 98), .mov (.t 0), none⟩,
           ⟨(some 99), .mov (.t 1), none⟩,
           ⟨(some 100), .mov (.t 2), none⟩,
           ⟨(some 101), .mov (.t 13), none⟩,
           ⟨(some 102), .mov (.t 4), none⟩,
           ⟨(some 103), .call .inl false (.f 232) [.t 98, .t 99, .t 100, .t 101, .t 102], none⟩,
           ⟨(some 15), .mov (.t 103), none⟩] false [0, 2, 3, 4, 10, 11, 15])
        (.seq
         (.region [] [] [
           ⟨(some 104), .mov (.t 15), none⟩,
           ⟨(some 1), .mov (.t 104), none⟩] false [0, 1, 2, 3, 4, 10, 11])
         (.exit 1)))
        .skip
        [0, 1, 2, 3, 4, 12, 13]))
     (.seq
      (.region [] [] [
        ⟨(some 106), .mov (.t 0), none⟩,
        ⟨(some 107), .mov (.t 1), none⟩,
        ⟨(some 108), .mov (.t 2), none⟩,
        ⟨(some 109), .mov (.t 13), none⟩,
        ⟨(some 110), .mov (.t 4), none⟩,
        ⟨(some 111), .call .inl false (.f 233) [.t 106, .t 107, .t 108, .t 109, .t 110], none⟩,
        ⟨(some 105), .mov (.t 111), none⟩,
        ⟨(some 112), .ext 0 (.t 105), none⟩,
        ⟨(some 113), .ext 1 (.t 105), none⟩,
        ⟨(some 16), .mov (.t 112), none⟩,
        ⟨(some 17), .mov (.t 113), none⟩] false [0, 1, 2, 3, 4, 12, 16, 17])
     (.seq
      (.region [] [] [
        ⟨(some 114), .mov (.t 17), none⟩,
        ⟨(some 11), .mov (.t 114), none⟩] false [0, 1, 2, 3, 4, 11, 12, 16])
     (.seq
      (.region [] [] [
        ⟨(some 115), .mov (.t 16), none⟩,
        ⟨(some 116), .mov (.t 1), none⟩,
        ⟨(some 117), .bin .sub 0 (.t 115) (.t 116), none⟩,
        ⟨(some 118), .mov (.t 2), none⟩,
        ⟨(some 119), .mov (.t 16), none⟩,
        ⟨(some 120), .bin .sub 0 (.t 118) (.t 119), none⟩,
        ⟨(some 18), .mov (.t 117), none⟩,
        ⟨(some 19), .mov (.t 120), none⟩] false [0, 1, 2, 3, 4, 11, 12, 16, 18, 19])
     (.seq
      (.region [] [] [
        ⟨(some 121), .mov (.t 12), none⟩,
        ⟨(some 122), .bin .quo 0 (.t 121) (.c (.int .i64 8)), none⟩,
        ⟨(some 20), .mov (.t 122), none⟩] false [0, 1, 2, 3, 4, 11, 16, 18, 19, 20])
     (.seq
      (.region [] [] [
        ⟨(some 123), .mov (.t 18), none⟩,
        ⟨(some 124), .mov (.t 19), none⟩,
        ⟨(some 125), .bin .lss 0 (.t 123) (.t 124), none⟩] false [0, 1, 2, 3, 4, 11, 16, 18, 19, 20, 125])
      (.cond (.t 125)
       (.seq
        (.region [] [] [
          ⟨(some 126), .mov (.t 18), none⟩,
          ⟨(some 127), .mov (.t 20), none⟩,
          ⟨(some 128), .bin .geq 0 (.t 126) (.t 127), none⟩,
          ⟨(some 10), .mov (.t 128), none⟩] false [0, 1, 2, 3, 4, 10, 11, 16])
       (.seq
        (.region [] [] [
          ⟨(some 129), .mov (.t 0), none⟩,
          ⟨(some 130), .mov (.t 1), none⟩,
          ⟨(some 131), .mov (.t 16), none⟩,
          ⟨(some 132), .mov (.t 3), none⟩,
          ⟨(some 133), .mov (.t 4), none⟩,
          ⟨(some 134), .call .inl false (.f 200) [.t 129, .t 130, .t 131, .t 132, .t 133], none⟩] false [0, 2, 3, 4, 10, 11, 16])
        (.region [] [] [
          ⟨(some 135), .mov (.t 16), none⟩,
          ⟨(some 136), .bin .add 0 (.t 135) (.c (.int .i64 1)), none⟩,
          ⟨(some 1), .mov (.t 136), none⟩] false [0, 1, 2, 3, 4, 10, 11])))
       (.seq
        (.region [] [] [
          ⟨(some 137), .mov (.t 19), none⟩,
          ⟨(some 138), .mov (.t 20), none⟩,
          ⟨(some 139), .bin .geq 0 (.t 137) (.t 138), none⟩,
          ⟨(some 10), .mov (.t 139), none⟩] false [0, 1, 2, 3, 4, 10, 11, 16])
       (.seq
        (.region [] [] [
          ⟨(some 140), .mov (.t 0), none⟩,
          ⟨(some 141), .mov (.t 16), none⟩,
          ⟨(some 142), .bin .add 0 (.t 141) (.c (.int .i64 1)), none⟩,
          ⟨(some 143), .mov (.t 2), none⟩,
          ⟨(some 144), .mov (.t 3), none⟩,
          ⟨(some 145), .mov (.t 4), none⟩,
          ⟨(some 146), .call .inl false (.f 200) [.t 140, .t 142, .t 143, .t 144, .t 145], none⟩] false [0, 1, 3, 4, 10, 11, 16])
        (.region [] [] [
          ⟨(some 147), .mov (.t 16), none⟩,
          ⟨(some 2), .mov (.t 147), none⟩] false [0, 1, 2, 3, 4, 10, 11])))
       [0, 1, 2, 3, 4, 10, 11]))))))))))))))
     [0, 1, 2, 3, 4, 10, 11])
    [0, 1, 2, 3, 4, 10, 11])
   []))),
 []⟩
/-- (spokeshave/num.Int).Abs -/
def a201 : AFunc := ⟨
 (.seq
  (.region [] [] [
    ⟨(some 1), .box (.t 0), none⟩,
    ⟨(some 2), .alloc [.bool false, .slT true []], none⟩] false [1, 2])
 (.seq
  (.region [] [] [
    ⟨(some 3), .fldA 1 .one (.t 1), none⟩,
    ⟨(some 4), .load .one (.t 3), none⟩,
    ⟨(some 5), .build [.bool false, .slT true []] [(0, 1, .c (.bool false)), (1, 1, .t 4)], none⟩,
    ⟨none, .store 2 (.t 2) (.t 5), none⟩] false [2])
  .ret)),
 [.cell 2 (.many 2)]⟩
/-- spokeshave/num.halved -/
def a202 : AFunc := ⟨
 (.seq
  (.region [] [] [
    ⟨(some 3), .mov (.t 0), none⟩,
    ⟨(some 4), .len (.t 3), none⟩,
    ⟨(some 5), .mov (.c (.int .i64 0)), none⟩] false [0, 4, 5])
  (.block 0
   (.loop
    (.seq
     (.region [] [] [
       ⟨(some 6), .bin .lss 0 (.t 5) (.t 4), none⟩] false [0, 4, 5, 6])
    (.seq
     (.cond (.t 6)
      .skip
      (.exit 0)
      [0, 4, 5])
    (.seq
     (.block 1
      (.seq
       (.region [] [] [
         ⟨(some 7), .mov (.t 5), none⟩,
         ⟨(some 2), .mov (.t 7), none⟩] false [0, 2, 4, 5])
      (.seq
       (.region [] [] [
         ⟨(some 8), .mov (.t 0), none⟩,
         ⟨(some 9), .mov (.t 2), none⟩,
         ⟨(some 10), .idxS .one (.t 8) (.t 9), none⟩,
         ⟨(some 11), .load .one (.t 10), none⟩,
         ⟨(some 12), .bin .shr 0 (.t 11) (.c (.int .u64 1)), none⟩,
         ⟨(some 13), .idxS .one (.t 8) (.t 9), none⟩,
         ⟨none, .store 1 (.t 13) (.t 12), none⟩] false [0, 2, 4, 5])
      (.seq
       (.region [] [] [
         ⟨(some 14), .mov (.t 2), none⟩,
         ⟨(some 15), .bin .add 0 (.t 14) (.c (.int .i64 1)), none⟩,
         ⟨(some 16), .mov (.t 0), none⟩,
         ⟨(some 17), .len (.t 16), none⟩,
         ⟨(some 18), .bin .lss 0 (.t 15) (.t 17), none⟩] false [0, 2, 4, 5, 18])
       (.cond (.t 18)
        (.region [] [] [
          ⟨(some 19), .mov (.t 0), none⟩,
          ⟨(some 20), .mov (.t 2), none⟩,
          ⟨(some 21), .idxS .one (.t 19) (.t 20), none⟩,
          ⟨(some 22), .load .one (.t 21), none⟩,
          ⟨(some 23), .mov (.t 0), none⟩,
          ⟨(some 24), .mov (.t 2), none⟩,
          ⟨(some 25), .bin .add 0 (.t 24) (.c (.int .i64 1)), none⟩,
          ⟨(some 26), .idxS .one (.t 23) (.t 25), none⟩,
          ⟨(some 27), .load .one (.t 26), none⟩,
          ⟨(some 28), .bin .shl 0 (.t 27) (.c (.int .u64 63)), none⟩,
          ⟨(some 29), .bin .or 0 (.t 22) (.t 28), none⟩,
          ⟨(some 30), .idxS .one (.t 19) (.t 20), none⟩,
          ⟨none, .store 1 (.t 30) (.t 29), none⟩] true [0, 4, 5])
        .skip
        [0, 4, 5]))))
      [0, 4, 5])
     (.region [] [] [
       ⟨(some 31), .bin .add 0 (.t 5) (.c (.int .i64 1)), none⟩,
       ⟨(some 5), .mov (.t 31), none⟩] false [0, 4, 5]))))
    [0, 4, 5])
   [])),
 []⟩
/-- spokeshave/num.shifted -/
def a203 : AFunc := ⟨
 (.seq
  (.region [] [] [
    ⟨(some 4), .nilv .one, none⟩] false [0, 1])
 (.seq
  (.region [] [] [
    ⟨(some 9), .mov (.t 1), none⟩,
    ⟨(some 10), .bin .quo 0 (.t 9) (.c (.int .i64 64)), none⟩,
    ⟨(some 11), .mov (.t 1), none⟩,
    ⟨(some 12), .bin .quo 0 (.t 11) (.c (.int .i64 64)), none⟩,
    ⟨(some 13), .mov (.t 0), none⟩,
    ⟨(some 14), .len (.t 13), none⟩,
    ⟨(some 15), .bin .add 0 (.t 12) (.t 14), none⟩,
    ⟨(some 16), .bin .add 0 (.t 15) (.c (.int .i64 1)), none⟩,
    ⟨(some 17), .mkSlice [.int .u64 0] .one 8 (.t 10) (.t 16), none⟩,
    ⟨(some 5), .mov (.t 17), none⟩] false [0, 1, 5])
 (.seq
  (.region [] [] [
    ⟨(some 6), .mov (.c (.int .u64 0)), none⟩] false [0, 1, 5, 6])
 (.seq
  (.seq
   (.region [] [] [
     ⟨(some 18), .mov (.t 0), none⟩,
     ⟨(some 19), .len (.t 18), none⟩,
     ⟨(some 20), .mov (.c (.int .i64 0)), none⟩] false [1, 5, 6, 18, 19, 20])
   (.block 0
    (.loop
     (.seq
      (.region [] [] [
        ⟨(some 21), .bin .lss 0 (.t 20) (.t 19), none⟩] false [1, 5, 6, 18, 19, 20, 21])
     (.seq
      (.cond (.t 21)
       .skip
       (.exit 0)
       [1, 5, 6, 18, 19, 20])
     (.seq
      (.block 1
       (.seq
        (.region [] [] [
          ⟨(some 22), .idxS .one (.t 18) (.t 20), none⟩,
          ⟨(some 23), .load .one (.t 22), none⟩,
          ⟨(some 8), .mov (.t 23), none⟩] false [1, 5, 6, 8, 18, 19, 20])
       (.seq
        (.region [] [] [
          ⟨(some 24), .mov (.t 5), none⟩,
          ⟨(some 25), .mov (.t 8), none⟩,
          ⟨(some 26), .mov (.t 1), none⟩,
          ⟨(some 27), .bin .rem 0 (.t 26) (.c (.int .i64 64)), none⟩,
          ⟨(some 28), .conv .u64 (.t 27), none⟩,
          ⟨(some 29), .bin .shl 0 (.t 25) (.t 28), none⟩,
          ⟨(some 30), .mov (.t 6), none⟩,
          ⟨(some 31), .bin .or 0 (.t 29) (.t 30), none⟩,
          ⟨(some 32), .mkSl [.int .u64 0] .one 1 [(0, .t 31)], none⟩,
          ⟨(some 33), .app .one 8 (.t 24) (.t 32), none⟩,
          ⟨(some 5), .mov (.t 33), none⟩] false [1, 5, 8, 18, 19, 20])
        (.region [] [] [
          ⟨(some 34), .mov (.t 8), none⟩,
          ⟨(some 35), .mov (.t 1), none⟩,
          ⟨(some 36), .bin .rem 0 (.t 35) (.c (.int .i64 64)), none⟩,
          ⟨(some 37), .bin .sub 0 (.c (.int .i64 64)) (.t 36), none⟩,
          ⟨(some 38), .conv .u64 (.t 37), none⟩,
          ⟨(some 39), .bin .shr 0 (.t 34) (.t 38), none⟩,
          ⟨(some 6), .mov (.t 39), none⟩] false [1, 5, 6, 18, 19, 20])))
       [1, 5, 6, 18, 19, 20])
      (.region [] [] [
        ⟨(some 40), .bin .add 0 (.t 20) (.c (.int .i64 1)), none⟩,
        ⟨(some 20), .mov (.t 40), none⟩] false [1, 5, 6, 18, 19, 20]))))
     [1, 5, 6, 18, 19, 20])
    [5, 6]))
 (.seq
  (.region [] [] [
    ⟨(some 41), .mov (.t 5), none⟩,
    ⟨(some 42), .mov (.t 6), none⟩,
    ⟨(some 43), .mkSl [.int .u64 0] .one 1 [(0, .t 42)], none⟩,
    ⟨(some 44), .app .one 8 (.t 41) (.t 43), none⟩,
    ⟨(some 4), .mov (.t 44), none⟩] false [4])
  .ret))))),
 [.t 4]⟩
/-- spokeshave/num.minus -/
def a204 : AFunc := ⟨
 (.seq
  (.region [] [] [
    ⟨(some 4), .nilv .one, none⟩] false [0, 1])
 (.seq
  (.region [] [] [
    ⟨(some 11), .mov (.t 0), none⟩,
    ⟨(some 12), .len (.t 11), none⟩,
    ⟨(some 13), .mkSlice [.int .u64 0] .one 8 (.c (.int .i64 0)) (.t 12), none⟩,
    ⟨(some 5), .mov (.t 13), none⟩] false [0, 1, 5])
 (.seq
  (.region [] [] [
    ⟨(some 6), .mov (.c (.int .u64 0)), none⟩] false [0, 1, 5, 6])
 (.seq
  (.seq
   (.region [] [] [
     ⟨(some 14), .mov (.t 0), none⟩,
     ⟨(some 15), .len (.t 14), none⟩,
     ⟨(some 16), .mov (.c (.int .i64 0)), none⟩] false [1, 5, 6, 14, 15, 16])
   (.block 0
    (.loop
     (.seq
      (.region [] [] [
        ⟨(some 17), .bin .lss 0 (.t 16) (.t 15), none⟩] false [1, 5, 6, 14, 15, 16, 17])
     (.seq
      (.cond (.t 17)
       .skip
       (.exit 0)
       [1, 5, 6, 14, 15, 16])
     (.seq
      (.block 1
       (.seq
        (.region [] [] [
          ⟨(some 18), .mov (.t 16), none⟩,
          ⟨(some 19), .idxS .one (.t 14) (.t 16), none⟩,
          ⟨(some 20), .load .one (.t 19), none⟩,
          ⟨(some 7), .mov (.t 18), none⟩,
          ⟨(some 8), .mov (.t 20), none⟩] false [1, 5, 6, 7, 8, 14, 15, 16])
       (.seq
        (.region [] [] [
          ⟨(some 9), .mov (.c (.int .u64 0)), none⟩] false [1, 5, 6, 7, 8, 9, 14, 15, 16])
       (.seq
        (.seq
         (.region [] [] [
           ⟨(some 21), .mov (.t 7), none⟩,
           ⟨(some 22), .mov (.t 1), none⟩,
           ⟨(some 23), .len (.t 22), none⟩,
           ⟨(some 24), .bin .lss 0 (.t 21) (.t 23), none⟩] false [1, 5, 6, 7, 8, 9, 14, 15, 16, 24])
         (.cond (.t 24)
          (.region [] [] [
            ⟨(some 25), .mov (.t 1), none⟩,
            ⟨(some 26), .mov (.t 7), none⟩,
            ⟨(some 27), .idxS .one (.t 25) (.t 26), none⟩,
            ⟨(some 28), .load .one (.t 27), none⟩,
            ⟨(some 9), .mov (.t 28), none⟩] false [1, 5, 6, 8, 9, 14, 15, 16])
          .skip
          [1, 5, 6, 8, 9, 14, 15, 16]))
       (.seq
        (.region [] [] [
          ⟨(some 10), .mov (.c (.int .u64 0)), none⟩] false [1, 5, 6, 8, 9, 14, 15, 16])
       (.seq
        (.region [] [] [
          ⟨(some 30), .mov (.t 8), none⟩,
          ⟨(some 31), .mov (.t 9), none⟩,
          ⟨(some 32), .mov (.t 6), none⟩,
          ⟨(some 33), .call .pure false (.f 234) [.t 30, .t 31, .t 32], none⟩,
          ⟨(some 29), .mov (.t 33), none⟩,
          ⟨(some 34), .ext 0 (.t 29), none⟩,
          ⟨(some 35), .ext 1 (.t 29), none⟩,
          ⟨(some 10), .mov (.t 34), none⟩,
          ⟨(some 6), .mov (.t 35), none⟩] false [1, 5, 6, 10, 14, 15, 16])
        (.region [] [] [
          ⟨(some 36), .mov (.t 5), none⟩,
          ⟨(some 37), .mov (.t 10), none⟩,
          ⟨(some 38), .mkSl [.int .u64 0] .one 1 [(0, .t 37)], none⟩,
          ⟨(some 39), .app .one 8 (.t 36) (.t 38), none⟩,
          ⟨(some 5), .mov (.t 39), none⟩] false [1, 5, 6, 14, 15, 16]))))))
       [1, 5, 6, 14, 15, 16])
      (.region [] [] [
        ⟨(some 40), .bin .add 0 (.t 16) (.c (.int .i64 1)), none⟩,
        ⟨(some 16), .mov (.t 40), none⟩] false [1, 5, 6, 14, 15, 16]))))
     [1, 5, 6, 14, 15, 16])
    [5]))
 (.seq
  (.region [] [] [
    ⟨(some 41), .mov (.t 5), none⟩,
    ⟨(some 4), .mov (.t 41), none⟩] false [4])
  .ret))))),
 [.t 4]⟩
/-- (spokeshave/num.Int).Div -/
def a205 : AFunc := ⟨
 (.seq
  (.region [] [] [
    ⟨(some 2), .box (.t 0), none⟩,
    ⟨(some 3), .box (.t 1), none⟩,
    ⟨(some 4), .alloc [.bool false, .slT true []], none⟩,
    ⟨(some 5), .alloc [.bool false, .slT true []], none⟩] false [2, 3, 4, 5])
 (.seq
  (.region [] [] [
    ⟨(some 7), .fldA 1 .one (.t 2), none⟩,
    ⟨(some 8), .load .one (.t 7), none⟩,
    ⟨(some 9), .fldA 1 .one (.t 3), none⟩,
    ⟨(some 10), .load .one (.t 9), none⟩,
    ⟨(some 11), .call .pure false (.f 235) [.t 8, .t 10], none⟩,
    ⟨(some 6), .mov (.t 11), none⟩,
    ⟨(some 12), .ext 0 (.t 6), none⟩,
    ⟨(some 13), .ext 1 (.t 6), none⟩,
    ⟨none, .store 2 (.t 4) (.t 12), none⟩,
    ⟨none, .store 2 (.t 5) (.t 13), none⟩] false [2, 3, 4, 5])
 (.seq
  (.seq
   (.region [] [] [
     ⟨(some 14), .fldA 0 .one (.t 2), none⟩,
     ⟨(some 15), .load .one (.t 14), none⟩,
     ⟨(some 16), .mov (.t 15), none⟩,
     ⟨(some 17), .load (.many 2) (.t 5), (some (16, true))⟩,
     ⟨(some 18), .call .pure false (.f 167) [.t 17], (some (16, true))⟩,
     ⟨(some 19), .bin .gtr 0 (.t 18) (.c (.int .i64 0)), (some (16, true))⟩,
     ⟨(some 20), .pick (.t 16) (.t 19) (.c (.bool false)), none⟩] false [2, 3, 4, 5, 20])
   (.cond (.t 20)
    (.region [] [] [
      ⟨(some 21), .load (.many 2) (.t 4), none⟩,
      ⟨(some 22), .call .pure false (.f 170) [], none⟩,
      ⟨(some 23), .call .pure false (.f 236) [.t 21, .t 22], none⟩,
      ⟨(some 24), .load (.many 2) (.t 3), none⟩,
      ⟨(some 25), .call .pure false (.f 201) [.t 24], none⟩,
      ⟨(some 26), .load (.many 2) (.t 5), none⟩,
      ⟨(some 27), .call .pure false (.f 208) [.t 25, .t 26], none⟩,
      ⟨none, .store 2 (.t 4) (.t 23), none⟩,
      ⟨none, .store 2 (.t 5) (.t 27), none⟩] true [2, 3, 4, 5])
    .skip
    [2, 3, 4, 5]))
 (.seq
  (.seq
   (.region [] [] [
     ⟨(some 28), .fldA 0 .one (.t 2), none⟩,
     ⟨(some 29), .load .one (.t 28), none⟩,
     ⟨(some 30), .fldA 0 .one (.t 3), none⟩,
     ⟨(some 31), .load .one (.t 30), none⟩,
     ⟨(some 32), .bin .neq 1 (.t 29) (.t 31), none⟩] false [4, 5, 32])
   (.cond (.t 32)
    (.region [] [] [
      ⟨(some 33), .load (.many 2) (.t 4), none⟩,
      ⟨(some 34), .call .pure false (.f 168) [.t 33], none⟩,
      ⟨none, .store 2 (.t 4) (.t 34), none⟩] false [4, 5])
    .skip
    [4, 5]))
 (.seq
  (.region [] [(5, 4)] [
    ⟨(some 35), .load (.many 2) (.t 4), none⟩,
    ⟨(some 36), .load (.many 2) (.t 5), none⟩,
    ⟨none, .store 2 (.t 4) (.t 35), none⟩,
    ⟨none, .store 2 (.t 5) (.t 36), none⟩] true [4, 5])
  .ret))))),
 [.cell 4 (.many 2), .cell 5 (.many 2)]⟩
/-- math/bits.Mul64 -/
def a206 : AFunc := ⟨
 (.seq
  (.region [] [] [
    ⟨(some 4), .mov (.c (.int .u64 0)), none⟩,
    ⟨(some 5), .mov (.c (.int .u64 0)), none⟩] false [0, 1])
 (.seq
  (.region [] [] [
    ⟨(some 14), .mov (.t 0), none⟩,
    ⟨(some 15), .bin .and 0 (.t 14) (.c (.int .u64 4294967295)), none⟩,
    ⟨(some 6), .mov (.t 15), none⟩] false [0, 1, 6])
 (.seq
  (.region [] [] [
    ⟨(some 16), .mov (.t 0), none⟩,
    ⟨(some 17), .bin .shr 0 (.t 16) (.c (.int .u64 32)), none⟩,
    ⟨(some 7), .mov (.t 17), none⟩] false [0, 1, 6, 7])
 (.seq
  (.region [] [] [
    ⟨(some 18), .mov (.t 1), none⟩,
    ⟨(some 19), .bin .and 0 (.t 18) (.c (.int .u64 4294967295)), none⟩,
    ⟨(some 8), .mov (.t 19), none⟩] false [0, 1, 6, 7, 8])
 (.seq
  (.region [] [] [
    ⟨(some 20), .mov (.t 1), none⟩,
    ⟨(some 21), .bin .shr 0 (.t 20) (.c (.int .u64 32)), none⟩,
    ⟨(some 9), .mov (.t 21), none⟩] false [0, 1, 6, 7, 8, 9])
 (.seq
  (.region [] [] [
    ⟨(some 22), .mov (.t 6), none⟩,
    ⟨(some 23), .mov (.t 8), none⟩,
    ⟨(some 24), .bin .mul 0 (.t 22) (.t 23), none⟩,
    ⟨(some 10), .mov (.t 24), none⟩] false [0, 1, 6, 7, 8, 9, 10])
 (.seq
  (.region [] [] [
    ⟨(some 25), .mov (.t 7), none⟩,
    ⟨(some 26), .mov (.t 8), none⟩,
    ⟨(some 27), .bin .mul 0 (.t 25) (.t 26), none⟩,
    ⟨(some 28), .mov (.t 10), none⟩,
    ⟨(some 29), .bin .shr 0 (.t 28) (.c (.int .u64 32)), none⟩,
    ⟨(some 30), .bin .add 0 (.t 27) (.t 29), none⟩,
    ⟨(some 11), .mov (.t 30), none⟩] false [0, 1, 6, 7, 9, 11])
 (.seq
  (.region [] [] [
    ⟨(some 31), .mov (.t 11), none⟩,
    ⟨(some 32), .bin .and 0 (.t 31) (.c (.int .u64 4294967295)), none⟩,
    ⟨(some 12), .mov (.t 32), none⟩] false [0, 1, 6, 7, 9, 11, 12])
 (.seq
  (.region [] [] [
    ⟨(some 33), .mov (.t 11), none⟩,
    ⟨(some 34), .bin .shr 0 (.t 33) (.c (.int .u64 32)), none⟩,
    ⟨(some 13), .mov (.t 34), none⟩] false [0, 1, 6, 7, 9, 12, 13])
 (.seq
  (.region [] [] [
    ⟨(some 35), .mov (.t 12), none⟩,
    ⟨(some 36), .mov (.t 6), none⟩,
    ⟨(some 37), .mov (.t 9), none⟩,
    ⟨(some 38), .bin .mul 0 (.t 36) (.t 37), none⟩,
    ⟨(some 39), .bin .add 0 (.t 35) (.t 38), none⟩,
    ⟨(some 12), .mov (.t 39), none⟩] false [0, 1, 7, 9, 12, 13])
 (.seq
  (.region [] [] [
    ⟨(some 40), .mov (.t 7), none⟩,
    ⟨(some 41), .mov (.t 9), none⟩,
    ⟨(some 42), .bin .mul 0 (.t 40) (.t 41), none⟩,
    ⟨(some 43), .mov (.t 13), none⟩,
    ⟨(some 44), .bin .add 0 (.t 42) (.t 43), none⟩,
    ⟨(some 45), .mov (.t 12), none⟩,
    ⟨(some 46), .bin .shr 0 (.t 45) (.c (.int .u64 32)), none⟩,
    ⟨(some 47), .bin .add 0 (.t 44) (.t 46), none⟩,
    ⟨(some 4), .mov (.t 47), none⟩] false [0, 1, 4])
 (.seq
  (.region [] [] [
    ⟨(some 48), .mov (.t 0), none⟩,
    ⟨(some 49), .mov (.t 1), none⟩,
    ⟨(some 50), .bin .mul 0 (.t 48) (.t 49), none⟩,
    ⟨(some 5), .mov (.t 50), none⟩] false [4, 5])
  .ret)))))))))))),
 [.t 4, .t 5]⟩
/-- (spokeshave/num.Int).Sub -/
def a208 : AFunc := ⟨
 (.seq
  (.region [] [] [
    ⟨(some 2), .box (.t 0), none⟩,
    ⟨(some 3), .box (.t 1), none⟩,
    ⟨(some 4), .alloc [.bool false, .slT true []], none⟩] false [2, 3, 4])
 (.seq
  (.region [] [] [
    ⟨(some 5), .load (.many 2) (.t 2), none⟩,
    ⟨(some 6), .load (.many 2) (.t 3), none⟩,
    ⟨(some 7), .call .pure false (.f 168) [.t 6], none⟩,
    ⟨(some 8), .call .pure false (.f 236) [.t 5, .t 7], none⟩,
    ⟨none, .store 2 (.t 4) (.t 8), none⟩] true [4])
  .ret)),
 [.cell 4 (.many 2)]⟩
/-- (spokeshave/num.Rat).Mul -/
def a209 : AFunc := ⟨
 (.seq
  (.region [] [] [
    ⟨(some 2), .box (.t 0), none⟩,
    ⟨(some 3), .box (.t 1), none⟩,
    ⟨(some 4), .alloc [.bool false, .slT true [], .bool false, .slT true []], none⟩] false [2, 3, 4])
 (.seq
  (.region [] [] [
    ⟨(some 5), .fldA 0 (.many 2) (.t 2), none⟩,
    ⟨(some 6), .load (.many 2) (.t 5), none⟩,
    ⟨(some 7), .fldA 0 (.many 2) (.t 3), none⟩,
    ⟨(some 8), .load (.many 2) (.t 7), none⟩,
    ⟨(some 9), .call .pure false (.f 173) [.t 6, .t 8], none⟩,
    ⟨(some 10), .fldA 2 (.many 2) (.t 2), none⟩,
    ⟨(some 11), .load (.many 2) (.t 10), none⟩,
    ⟨(some 12), .fldA 2 (.many 2) (.t 3), none⟩,
    ⟨(some 13), .load (.many 2) (.t 12), none⟩,
    ⟨(some 14), .call .pure false (.f 173) [.t 11, .t 13], none⟩,
    ⟨(some 15), .call .pure false (.f 119) [.t 9, .t 14], none⟩,
    ⟨none, .store 4 (.t 4) (.t 15), none⟩] true [4])
  .ret)),
 [.cell 4 (.many 4)]⟩
/-- (spokeshave/num.Rat).Sub -/
def a210 : AFunc := ⟨
 (.seq
  (.region [] [] [
    ⟨(some 2), .box (.t 0), none⟩,
    ⟨(some 3), .box (.t 1), none⟩,
    ⟨(some 4), .alloc [.bool false, .slT true [], .bool false, .slT true []], none⟩] false [2, 3, 4])
 (.seq
  (.region [] [] [
    ⟨(some 5), .load (.many 4) (.t 2), none⟩,
    ⟨(some 6), .load (.many 4) (.t 3), none⟩,
    ⟨(some 7), .call .pure false (.f 238) [.t 6], none⟩,
    ⟨(some 8), .call .pure false (.f 237) [.t 5, .t 7], none⟩,
    ⟨none, .store 4 (.t 4) (.t 8), none⟩] true [4])
  .ret)),
 [.cell 4 (.many 4)]⟩
/-- slices.order2CmpFunc[spokeshave/profile.Spot] -/
def a224 : AFunc := ⟨
 (.seq
  (.region [] [] [
    ⟨(some 10), .mov (.c (.int .i64 0)), none⟩,
    ⟨(some 11), .mov (.c (.int .i64 0)), none⟩] false [0, 1, 2, 3, 4])
 (.seq
  (.seq
   (.region [] [] [
     ⟨(some 12), .mov (.t 4), none⟩,
     ⟨(some 13), .mov (.t 0), none⟩,
     ⟨(some 14), .mov (.t 2), none⟩,
     ⟨(some 15), .idxS (.many 2) (.t 13) (.t 14), none⟩,
     ⟨(some 16), .load (.many 2) (.t 15), none⟩,
     ⟨(some 17), .mov (.t 0), none⟩,
     ⟨(some 18), .mov (.t 1), none⟩,
     ⟨(some 19), .idxS (.many 2) (.t 17) (.t 18), none⟩,
     ⟨(some 20), .load (.many 2) (.t 19), none⟩,
     ⟨(some 21), .call .auto false (.t 12) [.t 16, .t 20], none⟩,
     ⟨(some 22), .bin .lss 0 (.t 21) (.c (.int .i64 0)), none⟩] true [1, 2, 3, 22])
   (.cond (.t 22)
    (.seq
     (.region [] [] [
       ⟨(some 23), .mov (.t 3), none⟩,
       ⟨(some 24), .nilchk (.t 23), none⟩,
       ⟨(some 25), .load .one (.t 24), none⟩,
       ⟨(some 26), .bin .add 0 (.t 25) (.c (.int .i64 1)), none⟩,
       ⟨(some 27), .nilchk (.t 23), none⟩,
       ⟨none, .store 1 (.t 27) (.t 26), none⟩] false [1, 2])
    (.seq
     (.region [] [] [
       ⟨(some 28), .mov (.t 2), none⟩,
       ⟨(some 29), .mov (.t 1), none⟩,
       ⟨(some 10), .mov (.t 28), none⟩,
       ⟨(some 11), .mov (.t 29), none⟩] false [10, 11])
     .ret))
    .skip
    [1, 2]))
 (.seq
  (.region [] [] [
    ⟨(some 30), .mov (.t 1), none⟩,
    ⟨(some 31), .mov (.t 2), none⟩,
    ⟨(some 10), .mov (.t 30), none⟩,
    ⟨(some 11), .mov (.t 31), none⟩] false [10, 11])
  .ret))),
 [.t 10, .t 11]⟩
/-- spokeshave/profile.half -/
def a225 : AFunc := ⟨
 (.seq
  (.region [] [] [
    ⟨(some 1), .box (.t 0), none⟩,
    ⟨(some 2), .mov (.c (.int .i64 0)), none⟩] false [1])
 (.seq
  (.seq
   (.region [] [] [
     ⟨(some 3), .idxA 2 .one (.t 1) (.c (.int .i64 1)), none⟩,
     ⟨(some 4), .load .one (.t 3), none⟩,
     ⟨(some 5), .bin .gtr 0 (.t 4) (.c (.int .i64 0)), none⟩,
     ⟨(some 6), .mov (.t 5), none⟩,
     ⟨(some 7), .idxA 2 .one (.t 1) (.c (.int .i64 1)), (some (6, false))⟩,
     ⟨(some 8), .load .one (.t 7), (some (6, false))⟩,
     ⟨(some 9), .bin .eql 0 (.t 8) (.c (.int .i64 0)), (some (6, false))⟩,
     ⟨(some 10), .mov (.t 9), (some (6, false))⟩,
     ⟨(some 11), .idxA 2 .one (.t 1) (.c (.int .i64 0)), (some (10, true))⟩,
     ⟨(some 12), .load .one (.t 11), (some (10, true))⟩,
     ⟨(some 13), .bin .gtr 0 (.t 12) (.c (.int .i64 0)), (some (10, true))⟩,
     ⟨(some 14), .pick (.t 10) (.t 13) (.c (.bool false)), (some (6, false))⟩,
     ⟨(some 15), .pick (.t 6) (.c (.bool true)) (.t 14), none⟩] false [15])
   (.cond (.t 15)
    (.seq
     (.region [] [] [
       ⟨(some 2), .mov (.c (.int .i64 0)), none⟩] false [2])
     .ret)
    .skip
    []))
 (.seq
  (.region [] [] [
    ⟨(some 2), .mov (.c (.int .i64 1)), none⟩] false [2])
  .ret))),
 [.t 2]⟩
/-- slices.insertionSortCmpFunc[[]spokeshave/profile.Spot] -/
def a226 : AFunc := ⟨
 (.seq
  (.region [] [] [
    ⟨(some 10), .mov (.t 1), none⟩,
    ⟨(some 11), .bin .add 0 (.t 10) (.c (.int .i64 1)), none⟩,
    ⟨(some 8), .mov (.t 11), none⟩] false [0, 1, 2, 3, 8])
  (.block 0
   (.loop
    (.seq
     (.seq
      (.region [] [] [
        ⟨(some 12), .mov (.t 8), none⟩,
        ⟨(some 13), .mov (.t 2), none⟩,
        ⟨(some 14), .bin .lss 0 (.t 12) (.t 13), none⟩] false [0, 1, 2, 3, 8, 14])
      (.cond (.t 14)
       .skip
       (.exit 0)
       [0, 1, 2, 3, 8]))
    (.seq
     (.block 1
      (.seq
       (.region [] [] [
         ⟨(some 17), .mov (.t 8), none⟩,
         ⟨(some 9), .mov (.t 17), none⟩] false [0, 1, 2, 3, 8, 9])
       (.block 2
        (.loop
         (.seq
          (.seq
           (.region [] [] [
             ⟨(some 18), .mov (.t 9), none⟩,
             ⟨(some 19), .mov (.t 1), none⟩,
             ⟨(some 20), .bin .gtr 0 (.t 18) (.t 19), none⟩,
             ⟨(some 21), .mov (.t 20), none⟩,
             ⟨(some 22), .mov (.t 3), (some (21, true))⟩,
             ⟨(some 23), .mov (.t 0), (some (21, true))⟩,
             ⟨(some 24), .mov (.t 9), (some (21, true))⟩,
             ⟨(some 25), .idxS .one (.t 23) (.t 24), (some (21, true))⟩,
             ⟨(some 26), .load .one (.t 25), (some (21, true))⟩,
             ⟨(some 27), .mov (.t 0), (some (21, true))⟩,
             ⟨(some 28), .mov (.t 9), (some (21, true))⟩,
             ⟨(some 29), .bin .sub 0 (.t 28) (.c (.int .i64 1)), (some (21, true))⟩,
             ⟨(some 30), .idxS .one (.t 27) (.t 29), (some (21, true))⟩,
             ⟨(some 31), .load .one (.t 30), (some (21, true))⟩,
             ⟨(some 32), .call .auto false (.t 22) [.t 26, .t 31], (some (21, true))⟩,
             ⟨(some 33), .bin .lss 0 (.t 32) (.c (.int .i64 0)), (some (21, true))⟩,
             ⟨(some 34), .pick (.t 21) (.t 33) (.c (.bool false)), none⟩] true [0, 1, 2, 3, 8, 9, 34])
           (.cond (.t 34)
            .skip
            (.exit 2)
            [0, 1, 2, 3, 8, 9]))
         (.seq
          (.block 3
           (.region [] [] [
             ⟨(some 37), .mov (.t 0), none⟩,
             ⟨(some 38), .mov (.t 9), none⟩,
             ⟨(some 39), .mov (.t 0), none⟩,
             ⟨(some 40), .mov (.t 9), none⟩,
             ⟨(some 41), .bin .sub 0 (.t 40) (.c (.int .i64 1)), none⟩,
             ⟨(some 42), .mov (.t 0), none⟩,
             ⟨(some 43), .mov (.t 9), none⟩,
             ⟨(some 44), .bin .sub 0 (.t 43) (.c (.int .i64 1)), none⟩,
             ⟨(some 45), .idxS .one (.t 42) (.t 44), none⟩,
             ⟨(some 46), .load .one (.t 45), none⟩,
             ⟨(some 47), .mov (.t 0), none⟩,
             ⟨(some 48), .mov (.t 9), none⟩,
             ⟨(some 49), .idxS .one (.t 47) (.t 48), none⟩,
             ⟨(some 50), .load .one (.t 49), none⟩,
             ⟨(some 51), .idxS .one (.t 37) (.t 38), none⟩,
             ⟨none, .store 1 (.t 51) (.t 46), none⟩,
             ⟨(some 52), .idxS .one (.t 39) (.t 41), none⟩,
             ⟨none, .store 1 (.t 52) (.t 50), none⟩] true [0, 1, 2, 3, 8, 9])
           [0, 1, 2, 3, 8, 9])
          (.region [] [] [
            ⟨(some 35), .mov (.t 9), none⟩,
            ⟨(some 36), .bin .sub 0 (.t 35) (.c (.int .i64 1)), none⟩,
            ⟨(some 9), .mov (.t 36), none⟩] false [0, 1, 2, 3, 8, 9])))
         [0, 1, 2, 3, 8, 9])
        [0, 1, 2, 3, 8]))
      [0, 1, 2, 3, 8])
     (.region [] [] [
       ⟨(some 15), .mov (.t 8), none⟩,
       ⟨(some 16), .bin .add 0 (.t 15) (.c (.int .i64 1)), none⟩,
       ⟨(some 8), .mov (.t 16), none⟩] false [0, 1, 2, 3, 8])))
    [0, 1, 2, 3, 8])
   [])),
 []⟩
/-- slices.heapSortCmpFunc[[]spokeshave/profile.Spot] -/
def a227 : AFunc := ⟨
 (.seq
  (.region [] [] [
    ⟨(some 13), .mov (.t 1), none⟩,
    ⟨(some 8), .mov (.t 13), none⟩] false [0, 1, 2, 3, 8])
 (.seq
  (.region [] [] [
    ⟨(some 9), .mov (.c (.int .i64 0)), none⟩] false [0, 1, 2, 3, 8, 9])
 (.seq
  (.region [] [] [
    ⟨(some 14), .mov (.t 2), none⟩,
    ⟨(some 15), .mov (.t 1), none⟩,
    ⟨(some 16), .bin .sub 0 (.t 14) (.t 15), none⟩,
    ⟨(some 10), .mov (.t 16), none⟩] false [0, 3, 8, 9, 10])
 (.seq
  (.seq
   (.region [] [] [
     ⟨(some 17), .mov (.t 10), none⟩,
     ⟨(some 18), .bin .sub 0 (.t 17) (.c (.int .i64 1)), none⟩,
     ⟨(some 19), .bin .quo 0 (.t 18) (.c (.int .i64 2)), none⟩,
     ⟨(some 11), .mov (.t 19), none⟩] false [0, 3, 8, 9, 10, 11])
   (.block 0
    (.loop
     (.seq
      (.seq
       (.region [] [] [
         ⟨(some 20), .mov (.t 11), none⟩,
         ⟨(some 21), .bin .geq 0 (.t 20) (.c (.int .i64 0)), none⟩] false [0, 3, 8, 9, 10, 11, 21])
       (.cond (.t 21)
        .skip
        (.exit 0)
        [0, 3, 8, 9, 10, 11]))
     (.seq
      (.block 1
       (.region [] [] [
         ⟨(some 24), .mov (.t 0), none⟩,
         ⟨(some 25), .mov (.t 11), none⟩,
         ⟨(some 26), .mov (.t 10), none⟩,
         ⟨(some 27), .mov (.t 8), none⟩,
         ⟨(some 28), .mov (.t 3), none⟩,
         ⟨(some 29), .call .inl false (.f 251) [.t 24, .t 25, .t 26, .t 27, .t 28], none⟩] false [0, 3, 8, 9, 10, 11])
       [0, 3, 8, 9, 10, 11])
      (.region [] [] [
        ⟨(some 22), .mov (.t 11), none⟩,
        ⟨(some 23), .bin .sub 0 (.t 22) (.c (.int .i64 1)), none⟩,
        ⟨(some 11), .mov (.t 23), none⟩] false [0, 3, 8, 9, 10, 11])))
     [0, 3, 8, 9, 10, 11])
    [0, 3, 8, 9, 10]))
 (.seq
  (.region [] [] [
    ⟨(some 30), .mov (.t 10), none⟩,
    ⟨(some 31), .bin .sub 0 (.t 30) (.c (.int .i64 1)), none⟩,
    ⟨(some 12), .mov (.t 31), none⟩] false [0, 3, 8, 9, 12])
  (.block 2
   (.loop
    (.seq
     (.seq
      (.region [] [] [
        ⟨(some 32), .mov (.t 12), none⟩,
        ⟨(some 33), .bin .geq 0 (.t 32) (.c (.int .i64 0)), none⟩] false [0, 3, 8, 9, 12, 33])
      (.cond (.t 33)
       .skip
       (.exit 2)
       [0, 3, 8, 9, 12]))
    (.seq
     (.block 3
      (.seq
       (.region [] [] [
         ⟨(some 36), .mov (.t 0), none⟩,
         ⟨(some 37), .mov (.t 8), none⟩,
         ⟨(some 38), .mov (.t 0), none⟩,
         ⟨(some 39), .mov (.t 8), none⟩,
         ⟨(some 40), .mov (.t 12), none⟩,
         ⟨(some 41), .bin .add 0 (.t 39) (.t 40), none⟩,
         ⟨(some 42), .mov (.t 0), none⟩,
         ⟨(some 43), .mov (.t 8), none⟩,
         ⟨(some 44), .mov (.t 12), none⟩,
         ⟨(some 45), .bin .add 0 (.t 43) (.t 44), none⟩,
         ⟨(some 46), .idxS .one (.t 42) (.t 45), none⟩,
         ⟨(some 47), .load .one (.t 46), none⟩,
         ⟨(some 48), .mov (.t 0), none⟩,
         ⟨(some 49), .mov (.t 8), none⟩,
         ⟨(some 50), .idxS .one (.t 48) (.t 49), none⟩,
         ⟨(some 51), .load .one (.t 50), none⟩,
         ⟨(some 52), .idxS .one (.t 36) (.t 37), none⟩,
         ⟨none, .store 1 (.t 52) (.t 47), none⟩,
         ⟨(some 53), .idxS .one (.t 38) (.t 41), none⟩,
         ⟨none, .store 1 (.t 53) (.t 51), none⟩] true [0, 3, 8, 9, 12])
       (.region [] [] [
         ⟨(some 54), .mov (.t 0), none⟩,
         ⟨(some 55), .mov (.t 9), none⟩,
         ⟨(some 56), .mov (.t 12), none⟩,
         ⟨(some 57), .mov (.t 8), none⟩,
         ⟨(some 58), .mov (.t 3), none⟩,
         ⟨(some 59), .call .inl false (.f 251) [.t 54, .t 55, .t 56, .t 57, .t 58], none⟩] false [0, 3, 8, 9, 12]))
      [0, 3, 8, 9, 12])
     (.region [] [] [
       ⟨(some 34), .mov (.t 12), none⟩,
       ⟨(some 35), .bin .sub 0 (.t 34) (.c (.int .i64 1)), none⟩,
       ⟨(some 12), .mov (.t 35), none⟩] false [0, 3, 8, 9, 12])))
    [0, 3, 8, 9, 12])
   [])))))),
 []⟩
/-- slices.breakPatternsCmpFunc[[]spokeshave/profile.Spot] -/
def a228 : AFunc := ⟨
 (.seq
  (.region [] [] [
    ⟨(some 13), .mov (.t 2), none⟩,
    ⟨(some 14), .mov (.t 1), none⟩,
    ⟨(some 15), .bin .sub 0 (.t 13) (.t 14), none⟩,
    ⟨(some 8), .mov (.t 15), none⟩] false [0, 1, 8])
 (.seq
  (.region [] [] [
    ⟨(some 16), .mov (.t 8), none⟩,
    ⟨(some 17), .bin .geq 0 (.t 16) (.c (.int .i64 8)), none⟩] false [0, 1, 8, 17])
  (.cond (.t 17)
   (.seq
    (.region [] [] [
      ⟨(some 18), .mov (.t 8), none⟩,
      ⟨(some 19), .conv .u64 (.t 18), none⟩,
      ⟨(some 9), .alloc [.int .u64 0], none⟩,
      ⟨none, .store 1 (.t 9) (.t 19), none⟩] false [0, 1, 8, 9])
   (.seq
    (.region [] [] [
      ⟨(some 20), .mov (.t 8), none⟩,
      ⟨(some 21), .call .pure false (.f 192) [.t 20], none⟩,
      ⟨(some 10), .mov (.t 21), none⟩] false [0, 1, 8, 9, 10])
   (.seq
    (.region [] [] [
      ⟨(some 22), .mov (.t 1), none⟩,
      ⟨(some 23), .mov (.t 8), none⟩,
      ⟨(some 24), .bin .quo 0 (.t 23) (.c (.int .i64 4)), none⟩,
      ⟨(some 25), .bin .mul 0 (.t 24) (.c (.int .i64 2)), none⟩,
      ⟨(some 26), .bin .add 0 (.t 22) (.t 25), none⟩,
      ⟨(some 27), .bin .sub 0 (.t 26) (.c (.int .i64 1)), none⟩,
      ⟨(some 11), .mov (.t 27), none⟩] false [0, 1, 8, 9, 10, 11])
    (.block 0
     (.loop
      (.seq
       (.seq
        (.region [] [] [
          ⟨(some 28), .mov (.t 11), none⟩,
          ⟨(some 29), .mov (.t 1), none⟩,
          ⟨(some 30), .mov (.t 8), none⟩,
          ⟨(some 31), .bin .quo 0 (.t 30) (.c (.int .i64 4)), none⟩,
          ⟨(some 32), .bin .mul 0 (.t 31) (.c (.int .i64 2)), none⟩,
          ⟨(some 33), .bin .add 0 (.t 29) (.t 32), none⟩,
          ⟨(some 34), .bin .add 0 (.t 33) (.c (.int .i64 1)), none⟩,
          ⟨(some 35), .bin .leq 0 (.t 28) (.t 34), none⟩] false [0, 1, 8, 9, 10, 11, 35])
        (.cond (.t 35)
         .skip
         (.exit 0)
         [0, 1, 8, 9, 10, 11]))
      (.seq
       (.block 1
        (.seq
         (.region [] [] [
           ⟨(some 38), .call .inl false (.f 193) [.t 9], none⟩,
           ⟨(some 39), .mov (.t 10), none⟩,
           ⟨(some 40), .bin .sub 0 (.t 39) (.c (.int .u64 1)), none⟩,
           ⟨(some 41), .bin .and 0 (.t 38) (.t 40), none⟩,
           ⟨(some 42), .conv .i64 (.t 41), none⟩,
           ⟨(some 12), .mov (.t 42), none⟩] false [0, 1, 8, 9, 10, 11, 12])
        (.seq
         (.seq
          (.region [] [] [
            ⟨(some 43), .mov (.t 12), none⟩,
            ⟨(some 44), .mov (.t 8), none⟩,
            ⟨(some 45), .bin .geq 0 (.t 43) (.t 44), none⟩] false [0, 1, 8, 9, 10, 11, 12, 45])
          (.cond (.t 45)
           (.region [] [] [
             ⟨(some 46), .mov (.t 12), none⟩,
             ⟨(some 47), .mov (.t 8), none⟩,
             ⟨(some 48), .bin .sub 0 (.t 46) (.t 47), none⟩,
             ⟨(some 12), .mov (.t 48), none⟩] false [0, 1, 8, 9, 10, 11, 12])
           .skip
           [0, 1, 8, 9, 10, 11, 12]))
         (.region [] [] [
           ⟨(some 49), .mov (.t 0), none⟩,
           ⟨(some 50), .mov (.t 11), none⟩,
           ⟨(some 51), .mov (.t 0), none⟩,
           ⟨(some 52), .mov (.t 1), none⟩,
           ⟨(some 53), .mov (.t 12), none⟩,
           ⟨(some 54), .bin .add 0 (.t 52) (.t 53), none⟩,
           ⟨(some 55), .mov (.t 0), none⟩,
           ⟨(some 56), .mov (.t 1), none⟩,
           ⟨(some 57), .mov (.t 12), none⟩,
           ⟨(some 58), .bin .add 0 (.t 56) (.t 57), none⟩,
           ⟨(some 59), .idxS .one (.t 55) (.t 58), none⟩,
           ⟨(some 60), .load .one (.t 59), none⟩,
           ⟨(some 61), .mov (.t 0), none⟩,
           ⟨(some 62), .mov (.t 11), none⟩,
           ⟨(some 63), .idxS .one (.t 61) (.t 62), none⟩,
           ⟨(some 64), .load .one (.t 63), none⟩,
           ⟨(some 65), .idxS .one (.t 49) (.t 50), none⟩,
           ⟨none, .store 1 (.t 65) (.t 60), none⟩,
           ⟨(some 66), .idxS .one (.t 51) (.t 54), none⟩,
           ⟨none, .store 1 (.t 66) (.t 64), none⟩] true [0, 1, 8, 9, 10, 11])))
        [0, 1, 8, 9, 10, 11])
       (.region [] [] [
         ⟨(some 36), .mov (.t 11), none⟩,
         ⟨(some 37), .bin .add 0 (.t 36) (.c (.int .i64 1)), none⟩,
         ⟨(some 11), .mov (.t 37), none⟩] false [0, 1, 8, 9, 10, 11])))
      [0, 1, 8, 9, 10, 11])
     []))))
   .skip
   []))),
 []⟩
/-- slices.choosePivotCmpFunc[[]spokeshave/profile.Spot] -/
def a229 : AFunc := ⟨
 (.seq
  (.region [] [] [
    ⟨(some 8), .mov (.c (.int .i64 0)), none⟩,
    ⟨(some 9), .mov (.c (.int .i64 0)), none⟩] false [0, 1, 2, 3])
 (.seq
  (.region [] [] [
    ⟨(some 15), .mov (.t 2), none⟩,
    ⟨(some 16), .mov (.t 1), none⟩,
    ⟨(some 17), .bin .sub 0 (.t 15) (.t 16), none⟩,
    ⟨(some 10), .mov (.t 17), none⟩] false [0, 1, 3, 10])
 (.seq
  (.region [] [] [
    ⟨(some 11), .alloc [.int .i64 0], none⟩] false [0, 1, 3, 10, 11])
 (.seq
  (.region [] [] [
    ⟨(some 18), .mov (.t 1), none⟩,
    ⟨(some 19), .mov (.t 10), none⟩,
    ⟨(some 20), .bin .quo 0 (.t 19) (.c (.int .i64 4)), none⟩,
    ⟨(some 21), .bin .mul 0 (.t 20) (.c (.int .i64 1)), none⟩,
    ⟨(some 22), .bin .add 0 (.t 18) (.t 21), none⟩,
    ⟨(some 12), .mov (.t 22), none⟩] false [0, 1, 3, 10, 11, 12])
 (.seq
  (.region [] [] [
    ⟨(some 23), .mov (.t 1), none⟩,
    ⟨(some 24), .mov (.t 10), none⟩,
    ⟨(some 25), .bin .quo 0 (.t 24) (.c (.int .i64 4)), none⟩,
    ⟨(some 26), .bin .mul 0 (.t 25) (.c (.int .i64 2)), none⟩,
    ⟨(some 27), .bin .add 0 (.t 23) (.t 26), none⟩,
    ⟨(some 13), .mov (.t 27), none⟩] false [0, 1, 3, 10, 11, 12, 13])
 (.seq
  (.region [] [] [
    ⟨(some 28), .mov (.t 1), none⟩,
    ⟨(some 29), .mov (.t 10), none⟩,
    ⟨(some 30), .bin .quo 0 (.t 29) (.c (.int .i64 4)), none⟩,
    ⟨(some 31), .bin .mul 0 (.t 30) (.c (.int .i64 3)), none⟩,
    ⟨(some 32), .bin .add 0 (.t 28) (.t 31), none⟩,
    ⟨(some 14), .mov (.t 32), none⟩] false [0, 3, 10, 11, 12, 13, 14])
 (.seq
  (.seq
   (.region [] [] [
     ⟨(some 33), .mov (.t 10), none⟩,
     ⟨(some 34), .bin .geq 0 (.t 33) (.c (.int .i64 8)), none⟩] false [0, 3, 10, 11, 12, 13, 14, 34])
   (.cond (.t 34)
    (.seq
     (.seq
      (.region [] [] [
        ⟨(some 35), .mov (.t 10), none⟩,
        ⟨(some 36), .bin .geq 0 (.t 35) (.c (.int .i64 50)), none⟩] false [0, 3, 11, 12, 13, 14, 36])
      (.cond (.t 36)
       (.seq
        (.region [] [] [
          ⟨(some 37), .mov (.t 0), none⟩,
          ⟨(some 38), .mov (.t 12), none⟩,
          ⟨(some 39), .mov (.t 3), none⟩,
          ⟨(some 40), .call .inl false (.f 252) [.t 37, .t 38, .t 11, .t 39], none⟩,
          ⟨(some 12), .mov (.t 40), none⟩] false [0, 3, 11, 12, 13, 14])
       (.seq
        (.region [] [] [
          ⟨(some 41), .mov (.t 0), none⟩,
          ⟨(some 42), .mov (.t 13), none⟩,
          ⟨(some 43), .mov (.t 3), none⟩,
          ⟨(some 44), .call .inl false (.f 252) [.t 41, .t 42, .t 11, .t 43], none⟩,
          ⟨(some 13), .mov (.t 44), none⟩] false [0, 3, 11, 12, 13, 14])
        (.region [] [] [
          ⟨(some 45), .mov (.t 0), none⟩,
          ⟨(some 46), .mov (.t 14), none⟩,
          ⟨(some 47), .mov (.t 3), none⟩,
          ⟨(some 48), .call .inl false (.f 252) [.t 45, .t 46, .t 11, .t 47], none⟩,
          ⟨(some 14), .mov (.t 48), none⟩] false [0, 3, 11, 12, 13, 14])))
       .skip
       [0, 3, 11, 12, 13, 14]))
     (.region [] [] [
       ⟨(some 49), .mov (.t 0), none⟩,
       ⟨(some 50), .mov (.t 12), none⟩,
       ⟨(some 51), .mov (.t 13), none⟩,
       ⟨(some 52), .mov (.t 14), none⟩,
       ⟨(some 53), .mov (.t 3), none⟩,
       ⟨(some 54), .call .inl false (.f 253) [.t 49, .t 50, .t 51, .t 52, .t 11, .t 53], none⟩,
       ⟨(some 13), .mov (.t 54), none⟩] false [11, 13]))
    .skip
    [11, 13]))
 (.seq
  (.region [] [] [
    ⟨(some 55), .load .one (.t 11), none⟩] false [13, 55])
  (.block 0
   (.seq
    (.region [] [] [
      ⟨(some 58), .bin .eql 0 (.t 55) (.c (.int .i64 0)), none⟩,
      ⟨(some 57), .mov (.t 58), none⟩] false [13, 55, 57])
    (.cond (.t 57)
     (.seq
      (.region [] [] [
        ⟨(some 59), .mov (.t 13), none⟩,
        ⟨(some 8), .mov (.t 59), none⟩,
        ⟨(some 9), .mov (.c (.int .i64 1)), none⟩] false [8, 9])
      .ret)
     (.seq
      (.region [] [] [
        ⟨(some 61), .bin .eql 0 (.t 55) (.c (.int .i64 12)), none⟩,
        ⟨(some 60), .mov (.t 61), none⟩] false [13, 60])
      (.cond (.t 60)
       (.seq
        (.region [] [] [
          ⟨(some 62), .mov (.t 13), none⟩,
          ⟨(some 8), .mov (.t 62), none⟩,
          ⟨(some 9), .mov (.c (.int .i64 2)), none⟩] false [8, 9])
        .ret)
       (.seq
        (.region [] [] [
          ⟨(some 56), .mov (.t 13), none⟩,
          ⟨(some 8), .mov (.t 56), none⟩,
          ⟨(some 9), .mov (.c (.int .i64 0)), none⟩] false [8, 9])
        .ret)
       [8, 9]))
     [8, 9]))
   [8, 9]))))))))),
 [.t 8, .t 9]⟩
/-- slices.reverseRangeCmpFunc[[]spokeshave/profile.Spot] -/
def a230 : AFunc := ⟨
 (.seq
  (.region [] [] [
    ⟨(some 10), .mov (.t 1), none⟩,
    ⟨(some 8), .mov (.t 10), none⟩] false [0, 2, 8])
 (.seq
  (.region [] [] [
    ⟨(some 11), .mov (.t 2), none⟩,
    ⟨(some 12), .bin .sub 0 (.t 11) (.c (.int .i64 1)), none⟩,
    ⟨(some 9), .mov (.t 12), none⟩] false [0, 8, 9])
  (.block 0
   (.loop
    (.seq
     (.seq
      (.region [] [] [
        ⟨(some 13), .mov (.t 8), none⟩,
        ⟨(some 14), .mov (.t 9), none⟩,
        ⟨(some 15), .bin .lss 0 (.t 13) (.t 14), none⟩] false [0, 8, 9, 15])
      (.cond (.t 15)
       .skip
       (.exit 0)
       [0, 8, 9]))
     (.block 1
      (.seq
       (.region [] [] [
         ⟨(some 16), .mov (.t 0), none⟩,
         ⟨(some 17), .mov (.t 8), none⟩,
         ⟨(some 18), .mov (.t 0), none⟩,
         ⟨(some 19), .mov (.t 9), none⟩,
         ⟨(some 20), .mov (.t 0), none⟩,
         ⟨(some 21), .mov (.t 9), none⟩,
         ⟨(some 22), .idxS .one (.t 20) (.t 21), none⟩,
         ⟨(some 23), .load .one (.t 22), none⟩,
         ⟨(some 24), .mov (.t 0), none⟩,
         ⟨(some 25), .mov (.t 8), none⟩,
         ⟨(some 26), .idxS .one (.t 24) (.t 25), none⟩,
         ⟨(some 27), .load .one (.t 26), none⟩,
         ⟨(some 28), .idxS .one (.t 16) (.t 17), none⟩,
         ⟨none, .store 1 (.t 28) (.t 23), none⟩,
         ⟨(some 29), .idxS .one (.t 18) (.t 19), none⟩,
         ⟨none, .store 1 (.t 29) (.t 27), none⟩] true [0, 8, 9])
      (.seq
       (.region [] [] [
         ⟨(some 30), .mov (.t 8), none⟩,
         ⟨(some 31), .bin .add 0 (.t 30) (.c (.int .i64 1)), none⟩,
         ⟨(some 8), .mov (.t 31), none⟩] false [0, 8, 9])
       (.region [] [] [
         ⟨(some 32), .mov (.t 9), none⟩,
         ⟨(some 33), .bin .sub 0 (.t 32) (.c (.int .i64 1)), none⟩,
         ⟨(some 9), .mov (.t 33), none⟩] false [0, 8, 9])))
      [0, 8, 9]))
    [0, 8, 9])
   []))),
 []⟩
/-- slices.partialInsertionSortCmpFunc[[]spokeshave/profile.Spot] -/
def a231 : AFunc := ⟨
 (.seq
  (.region [] [] [
    ⟨(some 8), .mov (.c (.bool false)), none⟩] false [0, 1, 2, 3])
 (.seq
  (.region [] [] [
    ⟨(some 13), .mov (.t 1), none⟩,
    ⟨(some 14), .bin .add 0 (.t 13) (.c (.int .i64 1)), none⟩,
    ⟨(some 9), .mov (.t 14), none⟩] false [0, 1, 2, 3, 9])
 (.seq
  (.seq
   (.region [] [] [
     ⟨(some 10), .mov (.c (.int .i64 0)), none⟩] false [0, 1, 2, 3, 9, 10])
   (.block 0
    (.loop
     (.seq
      (.seq
       (.region [] [] [
         ⟨(some 15), .mov (.t 10), none⟩,
         ⟨(some 16), .bin .lss 0 (.t 15) (.c (.int .i64 5)), none⟩] false [0, 1, 2, 3, 9, 10, 16])
       (.cond (.t 16)
        .skip
        (.exit 0)
        [0, 1, 2, 3, 9, 10]))
     (.seq
      (.block 1
       (.seq
        (.block 2
         (.loop
          (.seq
           (.seq
            (.region [] [] [
              ⟨(some 19), .mov (.t 9), none⟩,
              ⟨(some 20), .mov (.t 2), none⟩,
              ⟨(some 21), .bin .lss 0 (.t 19) (.t 20), none⟩,
              ⟨(some 22), .mov (.t 21), none⟩,
              ⟨(some 23), .mov (.t 3), (some (22, true))⟩,
              ⟨(some 24), .mov (.t 0), (some (22, true))⟩,
              ⟨(some 25), .mov (.t 9), (some (22, true))⟩,
              ⟨(some 26), .idxS .one (.t 24) (.t 25), (some (22, true))⟩,
              ⟨(some 27), .load .one (.t 26), (some (22, true))⟩,
              ⟨(some 28), .mov (.t 0), (some (22, true))⟩,
              ⟨(some 29), .mov (.t 9), (some (22, true))⟩,
              ⟨(some 30), .bin .sub 0 (.t 29) (.c (.int .i64 1)), (some (22, true))⟩,
              ⟨(some 31), .idxS .one (.t 28) (.t 30), (some (22, true))⟩,
              ⟨(some 32), .load .one (.t 31), (some (22, true))⟩,
              ⟨(some 33), .call .auto false (.t 23) [.t 27, .t 32], (some (22, true))⟩,
              ⟨(some 34), .bin .lss 0 (.t 33) (.c (.int .i64 0)), (some (22, true))⟩,
              ⟨(some 35), .un .not (.t 34), (some (22, true))⟩,
              ⟨(some 36), .pick (.t 22) (.t 35) (.c (.bool false)), none⟩] true [0, 1, 2, 3, 9, 10, 36])
            (.cond (.t 36)
             .skip
             (.exit 2)
             [0, 1, 2, 3, 9, 10]))
           (.block 3
            (.region [] [] [
              ⟨(some 37), .mov (.t 9), none⟩,
              ⟨(some 38), .bin .add 0 (.t 37) (.c (.int .i64 1)), none⟩,
              ⟨(some 9), .mov (.t 38), none⟩] false [0, 1, 2, 3, 9, 10])
            [0, 1, 2, 3, 9, 10]))
          [0, 1, 2, 3, 9, 10])
         [0, 1, 2, 3, 9, 10])
       (.seq
        (.seq
         (.region [] [] [
           ⟨(some 39), .mov (.t 9), none⟩,
           ⟨(some 40), .mov (.t 2), none⟩,
           ⟨(some 41), .bin .eql 0 (.t 39) (.t 40), none⟩] false [0, 1, 2, 3, 9, 10, 41])
         (.cond (.t 41)
          (.seq
           (.region [] [] [
             ⟨(some 8), .mov (.c (.bool true)), none⟩] false [8])
           .ret)
          .skip
          [0, 1, 2, 3, 9, 10]))
       (.seq
        (.seq
         (.region [] [] [
           ⟨(some 42), .mov (.t 2), none⟩,
           ⟨(some 43), .mov (.t 1), none⟩,
           ⟨(some 44), .bin .sub 0 (.t 42) (.t 43), none⟩,
           ⟨(some 45), .bin .lss 0 (.t 44) (.c (.int .i64 50)), none⟩] false [0, 1, 2, 3, 9, 10, 45])
         (.cond (.t 45)
          (.seq
           (.region [] [] [
             ⟨(some 8), .mov (.c (.bool false)), none⟩] false [8])
           .ret)
          .skip
          [0, 1, 2, 3, 9, 10]))
       (.seq
        (.region [] [] [
          ⟨(some 46), .mov (.t 0), none⟩,
          ⟨(some 47), .mov (.t 9), none⟩,
          ⟨(some 48), .mov (.t 0), none⟩,
          ⟨(some 49), .mov (.t 9), none⟩,
          ⟨(some 50), .bin .sub 0 (.t 49) (.c (.int .i64 1)), none⟩,
          ⟨(some 51), .mov (.t 0), none⟩,
          ⟨(some 52), .mov (.t 9), none⟩,
          ⟨(some 53), .bin .sub 0 (.t 52) (.c (.int .i64 1)), none⟩,
          ⟨(some 54), .idxS .one (.t 51) (.t 53), none⟩,
          ⟨(some 55), .load .one (.t 54), none⟩,
          ⟨(some 56), .mov (.t 0), none⟩,
          ⟨(some 57), .mov (.t 9), none⟩,
          ⟨(some 58), .idxS .one (.t 56) (.t 57), none⟩,
          ⟨(some 59), .load .one (.t 58), none⟩,
          ⟨(some 60), .idxS .one (.t 46) (.t 47), none⟩,
          ⟨none, .store 1 (.t 60) (.t 55), none⟩,
          ⟨(some 61), .idxS .one (.t 48) (.t 50), none⟩,
          ⟨none, .store 1 (.t 61) (.t 59), none⟩] true [0, 1, 2, 3, 9, 10])
       (.seq
        (.seq
         (.region [] [] [
           ⟨(some 62), .mov (.t 9), none⟩,
           ⟨(some 63), .mov (.t 1), none⟩,
           ⟨(some 64), .bin .sub 0 (.t 62) (.t 63), none⟩,
           ⟨(some 65), .bin .geq 0 (.t 64) (.c (.int .i64 2)), none⟩] false [0, 1, 2, 3, 9, 10, 65])
         (.cond (.t 65)
          (.seq
           (.region [] [] [
             ⟨(some 66), .mov (.t 9), none⟩,
             ⟨(some 67), .bin .sub 0 (.t 66) (.c (.int .i64 1)), none⟩,
             ⟨(some 11), .mov (.t 67), none⟩] false [0, 1, 2, 3, 9, 10, 11])
           (.block 4
            (.loop
             (.seq
              (.seq
               (.region [] [] [
                 ⟨(some 68), .mov (.t 11), none⟩,
                 ⟨(some 69), .bin .geq 0 (.t 68) (.c (.int .i64 1)), none⟩] false [0, 1, 2, 3, 9, 10, 11, 69])
               (.cond (.t 69)
                .skip
                (.exit 4)
                [0, 1, 2, 3, 9, 10, 11]))
             (.seq
              (.block 5
               (.seq
                (.seq
                 (.region [] [] [
                   ⟨(some 72), .mov (.t 3), none⟩,
                   ⟨(some 73), .mov (.t 0), none⟩,
                   ⟨(some 74), .mov (.t 11), none⟩,
                   ⟨(some 75), .idxS .one (.t 73) (.t 74), none⟩,
                   ⟨(some 76), .load .one (.t 75), none⟩,
                   ⟨(some 77), .mov (.t 0), none⟩,
                   ⟨(some 78), .mov (.t 11), none⟩,
                   ⟨(some 79), .bin .sub 0 (.t 78) (.c (.int .i64 1)), none⟩,
                   ⟨(some 80), .idxS .one (.t 77) (.t 79), none⟩,
                   ⟨(some 81), .load .one (.t 80), none⟩,
                   ⟨(some 82), .call .auto false (.t 72) [.t 76, .t 81], none⟩,
                   ⟨(some 83), .bin .lss 0 (.t 82) (.c (.int .i64 0)), none⟩,
                   ⟨(some 84), .un .not (.t 83), none⟩] true [0, 1, 2, 3, 9, 10, 11, 84])
                 (.cond (.t 84)
                  (.exit 4)
                  .skip
                  [0, 1, 2, 3, 9, 10, 11]))
                (.region [] [] [
                  ⟨(some 85), .mov (.t 0), none⟩,
                  ⟨(some 86), .mov (.t 11), none⟩,
                  ⟨(some 87), .mov (.t 0), none⟩,
                  ⟨(some 88), .mov (.t 11), none⟩,
                  ⟨(some 89), .bin .sub 0 (.t 88) (.c (.int .i64 1)), none⟩,
                  ⟨(some 90), .mov (.t 0), none⟩,
                  ⟨(some 91), .mov (.t 11), none⟩,
                  ⟨(some 92), .bin .sub 0 (.t 91) (.c (.int .i64 1)), none⟩,
                  ⟨(some 93), .idxS .one (.t 90) (.t 92), none⟩,
                  ⟨(some 94), .load .one (.t 93), none⟩,
                  ⟨(some 95), .mov (.t 0), none⟩,
                  ⟨(some 96), .mov (.t 11), none⟩,
                  ⟨(some 97), .idxS .one (.t 95) (.t 96), none⟩,
                  ⟨(some 98), .load .one (.t 97), none⟩,
                  ⟨(some 99), .idxS .one (.t 85) (.t 86), none⟩,
                  ⟨none, .store 1 (.t 99) (.t 94), none⟩,
                  ⟨(some 100), .idxS .one (.t 87) (.t 89), none⟩,
                  ⟨none, .store 1 (.t 100) (.t 98), none⟩] true [0, 1, 2, 3, 9, 10, 11]))
               [0, 1, 2, 3, 9, 10, 11])
              (.region [] [] [
                ⟨(some 70), .mov (.t 11), none⟩,
                ⟨(some 71), .bin .sub 0 (.t 70) (.c (.int .i64 1)), none⟩,
                ⟨(some 11), .mov (.t 71), none⟩] false [0, 1, 2, 3, 9, 10, 11])))
             [0, 1, 2, 3, 9, 10, 11])
            [0, 1, 2, 3, 9, 10]))
          .skip
          [0, 1, 2, 3, 9, 10]))
       (.seq
        (.region [] [] [
          ⟨(some 101), .mov (.t 2), none⟩,
          ⟨(some 102), .mov (.t 9), none⟩,
          ⟨(some 103), .bin .sub 0 (.t 101) (.t 102), none⟩,
          ⟨(some 104), .bin .geq 0 (.t 103) (.c (.int .i64 2)), none⟩] false [0, 1, 2, 3, 9, 10, 104])
        (.cond (.t 104)
         (.seq
          (.region [] [] [
            ⟨(some 105), .mov (.t 9), none⟩,
            ⟨(some 106), .bin .add 0 (.t 105) (.c (.int .i64 1)), none⟩,
            ⟨(some 12), .mov (.t 106), none⟩] false [0, 1, 2, 3, 9, 10, 12])
          (.block 6
           (.loop
            (.seq
             (.seq
              (.region [] [] [
                ⟨(some 107), .mov (.t 12), none⟩,
                ⟨(some 108), .mov (.t 2), none⟩,
                ⟨(some 109), .bin .lss 0 (.t 107) (.t 108), none⟩] false [0, 1, 2, 3, 9, 10, 12, 109])
              (.cond (.t 109)
               .skip
               (.exit 6)
               [0, 1, 2, 3, 9, 10, 12]))
            (.seq
             (.block 7
              (.seq
               (.seq
                (.region [] [] [
                  ⟨(some 112), .mov (.t 3), none⟩,
                  ⟨(some 113), .mov (.t 0), none⟩,
                  ⟨(some 114), .mov (.t 12), none⟩,
                  ⟨(some 115), .idxS .one (.t 113) (.t 114), none⟩,
                  ⟨(some 116), .load .one (.t 115), none⟩,
                  ⟨(some 117), .mov (.t 0), none⟩,
                  ⟨(some 118), .mov (.t 12), none⟩,
                  ⟨(some 119), .bin .sub 0 (.t 118) (.c (.int .i64 1)), none⟩,
                  ⟨(some 120), .idxS .one (.t 117) (.t 119), none⟩,
                  ⟨(some 121), .load .one (.t 120), none⟩,
                  ⟨(some 122), .call .auto false (.t 112) [.t 116, .t 121], none⟩,
                  ⟨(some 123), .bin .lss 0 (.t 122) (.c (.int .i64 0)), none⟩,
                  ⟨(some 124), .un .not (.t 123), none⟩] true [0, 1, 2, 3, 9, 10, 12, 124])
                (.cond (.t 124)
                 (.exit 6)
                 .skip
                 [0, 1, 2, 3, 9, 10, 12]))
               (.region [] [] [
                 ⟨(some 125), .mov (.t 0), none⟩,
                 ⟨(some 126), .mov (.t 12), none⟩,
                 ⟨(some 127), .mov (.t 0), none⟩,
                 ⟨(some 128), .mov (.t 12), none⟩,
                 ⟨(some 129), .bin .sub 0 (.t 128) (.c (.int .i64 1)), none⟩,
                 ⟨(some 130), .mov (.t 0), none⟩,
                 ⟨(some 131), .mov (.t 12), none⟩,
                 ⟨(some 132), .bin .sub 0 (.t 131) (.c (.int .i64 1)), none⟩,
                 ⟨(some 133), .idxS .one (.t 130) (.t 132), none⟩,
                 ⟨(some 134), .load .one (.t 133), none⟩,
                 ⟨(some 135), .mov (.t 0), none⟩,
                 ⟨(some 136), .mov (.t 12), none⟩,
                 ⟨(some 137), .idxS .one (.t 135) (.t 136), none⟩,
                 ⟨(some 138), .load .one (.t 137), none⟩,
                 ⟨(some 139), .idxS .one (.t 125) (.t 126), none⟩,
                 ⟨none, .store 1 (.t 139) (.t 134), none⟩,
                 ⟨(some 140), .idxS .one (.t 127) (.t 129), none⟩,
                 ⟨none, .store 1 (.t 140) (.t 138), none⟩] true [0, 1, 2, 3, 9, 10, 12]))
              [0, 1, 2, 3, 9, 10, 12])
             (.region [] [] [
               ⟨(some 110), .mov (.t 12), none⟩,
               ⟨(some 111), .bin .add 0 (.t 110) (.c (.int .i64 1)), none⟩,
               ⟨(some 12), .mov (.t 111), none⟩] false [0, 1, 2, 3, 9, 10, 12])))
            [0, 1, 2, 3, 9, 10, 12])
           [0, 1, 2, 3, 9, 10]))
         .skip
         [0, 1, 2, 3, 9, 10])))))))
       [0, 1, 2, 3, 9, 10])
      (.region [] [] [
        ⟨(some 17), .mov (.t 10), none⟩,
        ⟨(some 18), .bin .add 0 (.t 17) (.c (.int .i64 1)), none⟩,
        ⟨(some 10), .mov (.t 18), none⟩] false [0, 1, 2, 3, 9, 10])))
     [0, 1, 2, 3, 9, 10])
    []))
 (.seq
  (.region [] [] [
    ⟨(some 8), .mov (.c (.bool false)), none⟩] false [8])
  .ret)))),
 [.t 8]⟩
/-- slices.partitionEqualCmpFunc[[]spokeshave/profile.Spot] -/
def a232 : AFunc := ⟨
 (.seq
  (.region [] [] [
    ⟨(some 10), .mov (.c (.int .i64 0)), none⟩] false [0, 1, 2, 3, 4])
 (.seq
  (.region [] [] [
    ⟨(some 13), .mov (.t 0), none⟩,
    ⟨(some 14), .mov (.t 1), none⟩,
    ⟨(some 15), .mov (.t 0), none⟩,
    ⟨(some 16), .mov (.t 3), none⟩,
    ⟨(some 17), .mov (.t 0), none⟩,
    ⟨(some 18), .mov (.t 3), none⟩,
    ⟨(some 19), .idxS .one (.t 17) (.t 18), none⟩,
    ⟨(some 20), .load .one (.t 19), none⟩,
    ⟨(some 21), .mov (.t 0), none⟩,
    ⟨(some 22), .mov (.t 1), none⟩,
    ⟨(some 23), .idxS .one (.t 21) (.t 22), none⟩,
    ⟨(some 24), .load .one (.t 23), none⟩,
    ⟨(some 25), .idxS .one (.t 13) (.t 14), none⟩,
    ⟨none, .store 1 (.t 25) (.t 20), none⟩,
    ⟨(some 26), .idxS .one (.t 15) (.t 16), none⟩,
    ⟨none, .store 1 (.t 26) (.t 24), none⟩] true [0, 1, 2, 4])
 (.seq
  (.region [] [] [
    ⟨(some 27), .mov (.t 1), none⟩,
    ⟨(some 28), .bin .add 0 (.t 27) (.c (.int .i64 1)), none⟩,
    ⟨(some 29), .mov (.t 2), none⟩,
    ⟨(some 30), .bin .sub 0 (.t 29) (.c (.int .i64 1)), none⟩,
    ⟨(some 11), .mov (.t 28), none⟩,
    ⟨(some 12), .mov (.t 30), none⟩] false [0, 1, 4, 11, 12])
 (.seq
  (.block 0
   (.loop
    (.block 1
     (.seq
      (.block 2
       (.loop
        (.seq
         (.seq
          (.region [] [] [
            ⟨(some 31), .mov (.t 11), none⟩,
            ⟨(some 32), .mov (.t 12), none⟩,
            ⟨(some 33), .bin .leq 0 (.t 31) (.t 32), none⟩,
            ⟨(some 34), .mov (.t 33), none⟩,
            ⟨(some 35), .mov (.t 4), (some (34, true))⟩,
            ⟨(some 36), .mov (.t 0), (some (34, true))⟩,
            ⟨(some 37), .mov (.t 1), (some (34, true))⟩,
            ⟨(some 38), .idxS .one (.t 36) (.t 37), (some (34, true))⟩,
            ⟨(some 39), .load .one (.t 38), (some (34, true))⟩,
            ⟨(some 40), .mov (.t 0), (some (34, true))⟩,
            ⟨(some 41), .mov (.t 11), (some (34, true))⟩,
            ⟨(some 42), .idxS .one (.t 40) (.t 41), (some (34, true))⟩,
            ⟨(some 43), .load .one (.t 42), (some (34, true))⟩,
            ⟨(some 44), .call .auto false (.t 35) [.t 39, .t 43], (some (34, true))⟩,
            ⟨(some 45), .bin .lss 0 (.t 44) (.c (.int .i64 0)), (some (34, true))⟩,
            ⟨(some 46), .un .not (.t 45), (some (34, true))⟩,
            ⟨(some 47), .pick (.t 34) (.t 46) (.c (.bool false)), none⟩] true [0, 1, 4, 11, 12, 47])
          (.cond (.t 47)
           .skip
           (.exit 2)
           [0, 1, 4, 11, 12]))
         (.block 3
          (.region [] [] [
            ⟨(some 48), .mov (.t 11), none⟩,
            ⟨(some 49), .bin .add 0 (.t 48) (.c (.int .i64 1)), none⟩,
            ⟨(some 11), .mov (.t 49), none⟩] false [0, 1, 4, 11, 12])
          [0, 1, 4, 11, 12]))
        [0, 1, 4, 11, 12])
       [0, 1, 4, 11, 12])
     (.seq
      (.block 4
       (.loop
        (.seq
         (.seq
          (.region [] [] [
            ⟨(some 50), .mov (.t 11), none⟩,
            ⟨(some 51), .mov (.t 12), none⟩,
            ⟨(some 52), .bin .leq 0 (.t 50) (.t 51), none⟩,
            ⟨(some 53), .mov (.t 52), none⟩,
            ⟨(some 54), .mov (.t 4), (some (53, true))⟩,
            ⟨(some 55), .mov (.t 0), (some (53, true))⟩,
            ⟨(some 56), .mov (.t 1), (some (53, true))⟩,
            ⟨(some 57), .idxS .one (.t 55) (.t 56), (some (53, true))⟩,
            ⟨(some 58), .load .one (.t 57), (some (53, true))⟩,
            ⟨(some 59), .mov (.t 0), (some (53, true))⟩,
            ⟨(some 60), .mov (.t 12), (some (53, true))⟩,
            ⟨(some 61), .idxS .one (.t 59) (.t 60), (some (53, true))⟩,
            ⟨(some 62), .load .one (.t 61), (some (53, true))⟩,
            ⟨(some 63), .call .auto false (.t 54) [.t 58, .t 62], (some (53, true))⟩,
            ⟨(some 64), .bin .lss 0 (.t 63) (.c (.int .i64 0)), (some (53, true))⟩,
            ⟨(some 65), .pick (.t 53) (.t 64) (.c (.bool false)), none⟩] true [0, 1, 4, 11, 12, 65])
          (.cond (.t 65)
           .skip
           (.exit 4)
           [0, 1, 4, 11, 12]))
         (.block 5
          (.region [] [] [
            ⟨(some 66), .mov (.t 12), none⟩,
            ⟨(some 67), .bin .sub 0 (.t 66) (.c (.int .i64 1)), none⟩,
            ⟨(some 12), .mov (.t 67), none⟩] false [0, 1, 4, 11, 12])
          [0, 1, 4, 11, 12]))
        [0, 1, 4, 11, 12])
       [0, 1, 4, 11, 12])
     (.seq
      (.seq
       (.region [] [] [
         ⟨(some 68), .mov (.t 11), none⟩,
         ⟨(some 69), .mov (.t 12), none⟩,
         ⟨(some 70), .bin .gtr 0 (.t 68) (.t 69), none⟩] false [0, 1, 4, 11, 12, 70])
       (.cond (.t 70)
        (.exit 0)
        .skip
        [0, 1, 4, 11, 12]))
     (.seq
      (.region [] [] [
        ⟨(some 71), .mov (.t 0), none⟩,
        ⟨(some 72), .mov (.t 11), none⟩,
        ⟨(some 73), .mov (.t 0), none⟩,
        ⟨(some 74), .mov (.t 12), none⟩,
        ⟨(some 75), .mov (.t 0), none⟩,
        ⟨(some 76), .mov (.t 12), none⟩,
        ⟨(some 77), .idxS .one (.t 75) (.t 76), none⟩,
        ⟨(some 78), .load .one (.t 77), none⟩,
        ⟨(some 79), .mov (.t 0), none⟩,
        ⟨(some 80), .mov (.t 11), none⟩,
        ⟨(some 81), .idxS .one (.t 79) (.t 80), none⟩,
        ⟨(some 82), .load .one (.t 81), none⟩,
        ⟨(some 83), .idxS .one (.t 71) (.t 72), none⟩,
        ⟨none, .store 1 (.t 83) (.t 78), none⟩,
        ⟨(some 84), .idxS .one (.t 73) (.t 74), none⟩,
        ⟨none, .store 1 (.t 84) (.t 82), none⟩] true [0, 1, 4, 11, 12])
     (.seq
      (.region [] [] [
        ⟨(some 85), .mov (.t 11), none⟩,
        ⟨(some 86), .bin .add 0 (.t 85) (.c (.int .i64 1)), none⟩,
        ⟨(some 11), .mov (.t 86), none⟩] false [0, 1, 4, 11, 12])
      (.region [] [] [
        ⟨(some 87), .mov (.t 12), none⟩,
        ⟨(some 88), .bin .sub 0 (.t 87) (.c (.int .i64 1)), none⟩,
        ⟨(some 12), .mov (.t 88), none⟩] false [0, 1, 4, 11, 12]))))))
     [0, 1, 4, 11, 12])
    [0, 1, 4, 11, 12])
   [11])
 (.seq
  (.region [] [] [
    ⟨(some 89), .mov (.t 11), none⟩,
    ⟨(some 10), .mov (.t 89), none⟩] false [10])
  .ret))))),
 [.t 10]⟩
/-- slices.partitionCmpFunc[[]spokeshave/profile.Spot] -/
def a233 : AFunc := ⟨
 (.seq
  (.region [] [] [
    ⟨(some 10), .mov (.c (.int .i64 0)), none⟩,
    ⟨(some 11), .mov (.c (.bool false)), none⟩] false [0, 1, 2, 3, 4])
 (.seq
  (.region [] [] [
    ⟨(some 14), .mov (.t 0), none⟩,
    ⟨(some 15), .mov (.t 1), none⟩,
    ⟨(some 16), .mov (.t 0), none⟩,
    ⟨(some 17), .mov (.t 3), none⟩,
    ⟨(some 18), .mov (.t 0), none⟩,
    ⟨(some 19), .mov (.t 3), none⟩,
    ⟨(some 20), .idxS .one (.t 18) (.t 19), none⟩,
    ⟨(some 21), .load .one (.t 20), none⟩,
    ⟨(some 22), .mov (.t 0), none⟩,
    ⟨(some 23), .mov (.t 1), none⟩,
    ⟨(some 24), .idxS .one (.t 22) (.t 23), none⟩,
    ⟨(some 25), .load .one (.t 24), none⟩,
    ⟨(some 26), .idxS .one (.t 14) (.t 15), none⟩,
    ⟨none, .store 1 (.t 26) (.t 21), none⟩,
    ⟨(some 27), .idxS .one (.t 16) (.t 17), none⟩,
    ⟨none, .store 1 (.t 27) (.t 25), none⟩] true [0, 1, 2, 4])
 (.seq
  (.region [] [] [
    ⟨(some 28), .mov (.t 1), none⟩,
    ⟨(some 29), .bin .add 0 (.t 28) (.c (.int .i64 1)), none⟩,
    ⟨(some 30), .mov (.t 2), none⟩,
    ⟨(some 31), .bin .sub 0 (.t 30) (.c (.int .i64 1)), none⟩,
    ⟨(some 12), .mov (.t 29), none⟩,
    ⟨(some 13), .mov (.t 31), none⟩] false [0, 1, 4, 12, 13])
 (.seq
  (.block 0
   (.loop
    (.seq
     (.seq
      (.region [] [] [
        ⟨(some 32), .mov (.t 12), none⟩,
        ⟨(some 33), .mov (.t 13), none⟩,
        ⟨(some 34), .bin .leq 0 (.t 32) (.t 33), none⟩,
        ⟨(some 35), .mov (.t 34), none⟩,
        ⟨(some 36), .mov (.t 4), (some (35, true))⟩,
        ⟨(some 37), .mov (.t 0), (some (35, true))⟩,
        ⟨(some 38), .mov (.t 12), (some (35, true))⟩,
        ⟨(some 39), .idxS .one (.t 37) (.t 38), (some (35, true))⟩,
        ⟨(some 40), .load .one (.t 39), (some (35, true))⟩,
        ⟨(some 41), .mov (.t 0), (some (35, true))⟩,
        ⟨(some 42), .mov (.t 1), (some (35, true))⟩,
        ⟨(some 43), .idxS .one (.t 41) (.t 42), (some (35, true))⟩,
        ⟨(some 44), .load .one (.t 43), (some (35, true))⟩,
        ⟨(some 45), .call .auto false (.t 36) [.t 40, .t 44], (some (35, true))⟩,
        ⟨(some 46), .bin .lss 0 (.t 45) (.c (.int .i64 0)), (some (35, true))⟩,
        ⟨(some 47), .pick (.t 35) (.t 46) (.c (.bool false)), none⟩] true [0, 1, 4, 12, 13, 47])
      (.cond (.t 47)
       .skip
       (.exit 0)
       [0, 1, 4, 12, 13]))
     (.block 1
      (.region [] [] [
        ⟨(some 48), .mov (.t 12), none⟩,
        ⟨(some 49), .bin .add 0 (.t 48) (.c (.int .i64 1)), none⟩,
        ⟨(some 12), .mov (.t 49), none⟩] false [0, 1, 4, 12, 13])
      [0, 1, 4, 12, 13]))
    [0, 1, 4, 12, 13])
   [0, 1, 4, 12, 13])
 (.seq
  (.block 2
   (.loop
    (.seq
     (.seq
      (.region [] [] [
        ⟨(some 50), .mov (.t 12), none⟩,
        ⟨(some 51), .mov (.t 13), none⟩,
        ⟨(some 52), .bin .leq 0 (.t 50) (.t 51), none⟩,
        ⟨(some 53), .mov (.t 52), none⟩,
        ⟨(some 54), .mov (.t 4), (some (53, true))⟩,
        ⟨(some 55), .mov (.t 0), (some (53, true))⟩,
        ⟨(some 56), .mov (.t 13), (some (53, true))⟩,
        ⟨(some 57), .idxS .one (.t 55) (.t 56), (some (53, true))⟩,
        ⟨(some 58), .load .one (.t 57), (some (53, true))⟩,
        ⟨(some 59), .mov (.t 0), (some (53, true))⟩,
        ⟨(some 60), .mov (.t 1), (some (53, true))⟩,
        ⟨(some 61), .idxS .one (.t 59) (.t 60), (some (53, true))⟩,
        ⟨(some 62), .load .one (.t 61), (some (53, true))⟩,
        ⟨(some 63), .call .auto false (.t 54) [.t 58, .t 62], (some (53, true))⟩,
        ⟨(some 64), .bin .lss 0 (.t 63) (.c (.int .i64 0)), (some (53, true))⟩,
        ⟨(some 65), .un .not (.t 64), (some (53, true))⟩,
        ⟨(some 66), .pick (.t 53) (.t 65) (.c (.bool false)), none⟩] true [0, 1, 4, 12, 13, 66])
      (.cond (.t 66)
       .skip
       (.exit 2)
       [0, 1, 4, 12, 13]))
     (.block 3
      (.region [] [] [
        ⟨(some 67), .mov (.t 13), none⟩,
        ⟨(some 68), .bin .sub 0 (.t 67) (.c (.int .i64 1)), none⟩,
        ⟨(some 13), .mov (.t 68), none⟩] false [0, 1, 4, 12, 13])
      [0, 1, 4, 12, 13]))
    [0, 1, 4, 12, 13])
   [0, 1, 4, 12, 13])
 (.seq
  (.seq
   (.region [] [] [
     ⟨(some 69), .mov (.t 12), none⟩,
     ⟨(some 70), .mov (.t 13), none⟩,
     ⟨(some 71), .bin .gtr 0 (.t 69) (.t 70), none⟩] false [0, 1, 4, 12, 13, 71])
   (.cond (.t 71)
    (.seq
     (.region [] [] [
       ⟨(some 72), .mov (.t 0), none⟩,
       ⟨(some 73), .mov (.t 13), none⟩,
       ⟨(some 74), .mov (.t 0), none⟩,
       ⟨(some 75), .mov (.t 1), none⟩,
       ⟨(some 76), .mov (.t 0), none⟩,
       ⟨(some 77), .mov (.t 1), none⟩,
       ⟨(some 78), .idxS .one (.t 76) (.t 77), none⟩,
       ⟨(some 79), .load .one (.t 78), none⟩,
       ⟨(some 80), .mov (.t 0), none⟩,
       ⟨(some 81), .mov (.t 13), none⟩,
       ⟨(some 82), .idxS .one (.t 80) (.t 81), none⟩,
       ⟨(some 83), .load .one (.t 82), none⟩,
       ⟨(some 84), .idxS .one (.t 72) (.t 73), none⟩,
       ⟨none, .store 1 (.t 84) (.t 79), none⟩,
       ⟨(some 85), .idxS .one (.t 74) (.t 75), none⟩,
       ⟨none, .store 1 (.t 85) (.t 83), none⟩] true [13])
    (.seq
     (.region [] [] [
       ⟨(some 86), .mov (.t 13), none⟩,
       ⟨(some 10), .mov (.t 86), none⟩,
       ⟨(some 11), .mov (.c (.bool true)), none⟩] false [10, 11])
     .ret))
    .skip
    [0, 1, 4, 12, 13]))
 (.seq
  (.region [] [] [
    ⟨(some 87), .mov (.t 0), none⟩,
    ⟨(some 88), .mov (.t 12), none⟩,
    ⟨(some 89), .mov (.t 0), none⟩,
    ⟨(some 90), .mov (.t 13), none⟩,
    ⟨(some 91), .mov (.t 0), none⟩,
    ⟨(some 92), .mov (.t 13), none⟩,
    ⟨(some 93), .idxS .one (.t 91) (.t 92), none⟩,
    ⟨(some 94), .load .one (.t 93), none⟩,
    ⟨(some 95), .mov (.t 0), none⟩,
    ⟨(some 96), .mov (.t 12), none⟩,
    ⟨(some 97), .idxS .one (.t 95) (.t 96), none⟩,
    ⟨(some 98), .load .one (.t 97), none⟩,
    ⟨(some 99), .idxS .one (.t 87) (.t 88), none⟩,
    ⟨none, .store 1 (.t 99) (.t 94), none⟩,
    ⟨(some 100), .idxS .one (.t 89) (.t 90), none⟩,
    ⟨none, .store 1 (.t 100) (.t 98), none⟩] true [0, 1, 4, 12, 13])
 (.seq
  (.region [] [] [
    ⟨(some 101), .mov (.t 12), none⟩,
    ⟨(some 102), .bin .add 0 (.t 101) (.c (.int .i64 1)), none⟩,
    ⟨(some 12), .mov (.t 102), none⟩] false [0, 1, 4, 12, 13])
 (.seq
  (.region [] [] [
    ⟨(some 103), .mov (.t 13), none⟩,
    ⟨(some 104), .bin .sub 0 (.t 103) (.c (.int .i64 1)), none⟩,
    ⟨(some 13), .mov (.t 104), none⟩] false [0, 1, 4, 12, 13])
 (.seq
  (.block 4
   (.loop
    (.block 5
     (.seq
      (.block 6
       (.loop
        (.seq
         (.seq
          (.region [] [] [
            ⟨(some 105), .mov (.t 12), none⟩,
            ⟨(some 106), .mov (.t 13), none⟩,
            ⟨(some 107), .bin .leq 0 (.t 105) (.t 106), none⟩,
            ⟨(some 108), .mov (.t 107), none⟩,
            ⟨(some 109), .mov (.t 4), (some (108, true))⟩,
            ⟨(some 110), .mov (.t 0), (some (108, true))⟩,
            ⟨(some 111), .mov (.t 12), (some (108, true))⟩,
            ⟨(some 112), .idxS .one (.t 110) (.t 111), (some (108, true))⟩,
            ⟨(some 113), .load .one (.t 112), (some (108, true))⟩,
            ⟨(some 114), .mov (.t 0), (some (108, true))⟩,
            ⟨(some 115), .mov (.t 1), (some (108, true))⟩,
            ⟨(some 116), .idxS .one (.t 114) (.t 115), (some (108, true))⟩,
            ⟨(some 117), .load .one (.t 116), (some (108, true))⟩,
            ⟨(some 118), .call .auto false (.t 109) [.t 113, .t 117], (some (108, true))⟩,
            ⟨(some 119), .bin .lss 0 (.t 118) (.c (.int .i64 0)), (some (108, true))⟩,
            ⟨(some 120), .pick (.t 108) (.t 119) (.c (.bool false)), none⟩] true [0, 1, 4, 12, 13, 120])
          (.cond (.t 120)
           .skip
           (.exit 6)
           [0, 1, 4, 12, 13]))
         (.block 7
          (.region [] [] [
            ⟨(some 121), .mov (.t 12), none⟩,
            ⟨(some 122), .bin .add 0 (.t 121) (.c (.int .i64 1)), none⟩,
            ⟨(some 12), .mov (.t 122), none⟩] false [0, 1, 4, 12, 13])
          [0, 1, 4, 12, 13]))
        [0, 1, 4, 12, 13])
       [0, 1, 4, 12, 13])
     (.seq
      (.block 8
       (.loop
        (.seq
         (.seq
          (.region [] [] [
            ⟨(some 123), .mov (.t 12), none⟩,
            ⟨(some 124), .mov (.t 13), none⟩,
            ⟨(some 125), .bin .leq 0 (.t 123) (.t 124), none⟩,
            ⟨(some 126), .mov (.t 125), none⟩,
            ⟨(some 127), .mov (.t 4), (some (126, true))⟩,
            ⟨(some 128), .mov (.t 0), (some (126, true))⟩,
            ⟨(some 129), .mov (.t 13), (some (126, true))⟩,
            ⟨(some 130), .idxS .one (.t 128) (.t 129), (some (126, true))⟩,
            ⟨(some 131), .load .one (.t 130), (some (126, true))⟩,
            ⟨(some 132), .mov (.t 0), (some (126, true))⟩,
            ⟨(some 133), .mov (.t 1), (some (126, true))⟩,
            ⟨(some 134), .idxS .one (.t 132) (.t 133), (some (126, true))⟩,
            ⟨(some 135), .load .one (.t 134), (some (126, true))⟩,
            ⟨(some 136), .call .auto false (.t 127) [.t 131, .t 135], (some (126, true))⟩,
            ⟨(some 137), .bin .lss 0 (.t 136) (.c (.int .i64 0)), (some (126, true))⟩,
            ⟨(some 138), .un .not (.t 137), (some (126, true))⟩,
            ⟨(some 139), .pick (.t 126) (.t 138) (.c (.bool false)), none⟩] true [0, 1, 4, 12, 13, 139])
          (.cond (.t 139)
           .skip
           (.exit 8)
           [0, 1, 4, 12, 13]))
         (.block 9
          (.region [] [] [
            ⟨(some 140), .mov (.t 13), none⟩,
            ⟨(some 141), .bin .sub 0 (.t 140) (.c (.int .i64 1)), none⟩,
            ⟨(some 13), .mov (.t 141), none⟩] false [0, 1, 4, 12, 13])
          [0, 1, 4, 12, 13]))
        [0, 1, 4, 12, 13])
       [0, 1, 4, 12, 13])
     (.seq
      (.seq
       (.region [] [] [
         ⟨(some 142), .mov (.t 12), none⟩,
         ⟨(some 143), .mov (.t 13), none⟩,
         ⟨(some 144), .bin .gtr 0 (.t 142) (.t 143), none⟩] false [0, 1, 4, 12, 13, 144])
       (.cond (.t 144)
        (.exit 4)
        .skip
        [0, 1, 4, 12, 13]))
     (.seq
      (.region [] [] [
        ⟨(some 145), .mov (.t 0), none⟩,
        ⟨(some 146), .mov (.t 12), none⟩,
        ⟨(some 147), .mov (.t 0), none⟩,
        ⟨(some 148), .mov (.t 13), none⟩,
        ⟨(some 149), .mov (.t 0), none⟩,
        ⟨(some 150), .mov (.t 13), none⟩,
        ⟨(some 151), .idxS .one (.t 149) (.t 150), none⟩,
        ⟨(some 152), .load .one (.t 151), none⟩,
        ⟨(some 153), .mov (.t 0), none⟩,
        ⟨(some 154), .mov (.t 12), none⟩,
        ⟨(some 155), .idxS .one (.t 153) (.t 154), none⟩,
        ⟨(some 156), .load .one (.t 155), none⟩,
        ⟨(some 157), .idxS .one (.t 145) (.t 146), none⟩,
        ⟨none, .store 1 (.t 157) (.t 152), none⟩,
        ⟨(some 158), .idxS .one (.t 147) (.t 148), none⟩,
        ⟨none, .store 1 (.t 158) (.t 156), none⟩] true [0, 1, 4, 12, 13])
     (.seq
      (.region [] [] [
        ⟨(some 159), .mov (.t 12), none⟩,
        ⟨(some 160), .bin .add 0 (.t 159) (.c (.int .i64 1)), none⟩,
        ⟨(some 12), .mov (.t 160), none⟩] false [0, 1, 4, 12, 13])
      (.region [] [] [
        ⟨(some 161), .mov (.t 13), none⟩,
        ⟨(some 162), .bin .sub 0 (.t 161) (.c (.int .i64 1)), none⟩,
        ⟨(some 13), .mov (.t 162), none⟩] false [0, 1, 4, 12, 13]))))))
     [0, 1, 4, 12, 13])
    [0, 1, 4, 12, 13])
   [0, 1, 13])
 (.seq
  (.region [] [] [
    ⟨(some 163), .mov (.t 0), none⟩,
    ⟨(some 164), .mov (.t 13), none⟩,
    ⟨(some 165), .mov (.t 0), none⟩,
    ⟨(some 166), .mov (.t 1), none⟩,
    ⟨(some 167), .mov (.t 0), none⟩,
    ⟨(some 168), .mov (.t 1), none⟩,
    ⟨(some 169), .idxS .one (.t 167) (.t 168), none⟩,
    ⟨(some 170), .load .one (.t 169), none⟩,
    ⟨(some 171), .mov (.t 0), none⟩,
    ⟨(some 172), .mov (.t 13), none⟩,
    ⟨(some 173), .idxS .one (.t 171) (.t 172), none⟩,
    ⟨(some 174), .load .one (.t 173), none⟩,
    ⟨(some 175), .idxS .one (.t 163) (.t 164), none⟩,
    ⟨none, .store 1 (.t 175) (.t 170), none⟩,
    ⟨(some 176), .idxS .one (.t 165) (.t 166), none⟩,
    ⟨none, .store 1 (.t 176) (.t 174), none⟩] true [13])
 (.seq
  (.region [] [] [
    ⟨(some 177), .mov (.t 13), none⟩,
    ⟨(some 10), .mov (.t 177), none⟩,
    ⟨(some 11), .mov (.c (.bool false)), none⟩] false [10, 11])
  .ret)))))))))))),
 [.t 10, .t 11]⟩
/-- spokeshave/num.divided -/
def a235 : AFunc := ⟨
 (.seq
  (.region [] [] [
    ⟨(some 4), .alloc [.bool false, .slT true []], none⟩,
    ⟨(some 5), .alloc [.bool false, .slT true []], none⟩] false [0, 1, 4, 5])
 (.seq
  (.seq
   (.region [] [] [
     ⟨(some 14), .mov (.t 1), none⟩,
     ⟨(some 15), .len (.t 14), none⟩,
     ⟨(some 16), .bin .eql 0 (.t 15) (.c (.int .i64 1)), none⟩] false [0, 1, 4, 5, 16])
   (.cond (.t 16)
    (.seq
     (.region [] [] [
       ⟨(some 18), .mov (.t 0), none⟩,
       ⟨(some 19), .mov (.t 1), none⟩,
       ⟨(some 20), .idxS .one (.t 19) (.c (.int .i64 0)), none⟩,
       ⟨(some 21), .load .one (.t 20), none⟩,
       ⟨(some 22), .call .pure false (.f 254) [.t 18, .t 21], none⟩,
       ⟨(some 17), .mov (.t 22), none⟩,
       ⟨(some 23), .ext 0 (.t 17), none⟩,
       ⟨(some 24), .ext 1 (.t 17), none⟩,
       ⟨(some 6), .mov (.t 23), none⟩,
       ⟨(some 7), .mov (.t 24), none⟩] false [4, 5, 6, 7])
    (.seq
     (.region [] [] [
       ⟨(some 25), .mov (.t 6), none⟩,
       ⟨(some 26), .call .pure false (.f 172) [.c (.bool false), .t 25], none⟩,
       ⟨(some 27), .mov (.t 7), none⟩,
       ⟨(some 28), .mkSl [.int .u64 0] .one 1 [(0, .t 27)], none⟩,
       ⟨(some 29), .call .pure false (.f 172) [.c (.bool false), .t 28], none⟩,
       ⟨none, .store 2 (.t 4) (.t 26), none⟩,
       ⟨none, .store 2 (.t 5) (.t 29), none⟩] false [4, 5])
     .ret))
    .skip
    [0, 1, 4, 5]))
 (.seq
  (.region [] [] [
    ⟨(some 30), .mov (.t 0), none⟩,
    ⟨(some 31), .call .pure false (.f 255) [.t 30], none⟩,
    ⟨(some 32), .mov (.t 1), none⟩,
    ⟨(some 33), .call .pure false (.f 255) [.t 32], none⟩,
    ⟨(some 34), .bin .sub 0 (.t 31) (.t 33), none⟩,
    ⟨(some 8), .mov (.t 34), none⟩] false [0, 1, 4, 5, 8])
 (.seq
  (.seq
   (.region [] [] [
     ⟨(some 35), .mov (.t 8), none⟩,
     ⟨(some 36), .bin .lss 0 (.t 35) (.c (.int .i64 0)), none⟩] false [0, 1, 4, 5, 8, 36])
   (.cond (.t 36)
    (.seq
     (.region [] [] [
       ⟨(some 37), .build [.bool false, .slT true []] [], none⟩,
       ⟨(some 38), .mov (.t 0), none⟩,
       ⟨(some 39), .call .pure false (.f 172) [.c (.bool false), .t 38], none⟩,
       ⟨none, .store 2 (.t 4) (.t 37), none⟩,
       ⟨none, .store 2 (.t 5) (.t 39), none⟩] false [4, 5])
     .ret)
    .skip
    [0, 1, 4, 5, 8]))
 (.seq
  (.region [] [] [
    ⟨(some 40), .mov (.t 8), none⟩,
    ⟨(some 41), .bin .quo 0 (.t 40) (.c (.int .i64 64)), none⟩,
    ⟨(some 42), .bin .add 0 (.t 41) (.c (.int .i64 1)), none⟩,
    ⟨(some 43), .mkSlice [.int .u64 0] .one 8 (.t 42) (.t 42), none⟩,
    ⟨(some 9), .mov (.t 43), none⟩] false [0, 1, 4, 5, 8, 9])
 (.seq
  (.region [] [] [
    ⟨(some 44), .mov (.t 0), none⟩,
    ⟨(some 45), .call .pure false (.f 172) [.c (.bool false), .t 44], none⟩,
    ⟨(some 10), .alloc [.bool false, .slT true []], none⟩,
    ⟨none, .store 2 (.t 10) (.t 45), none⟩] false [1, 4, 5, 8, 9, 10])
 (.seq
  (.region [] [] [
    ⟨(some 46), .mov (.t 1), none⟩,
    ⟨(some 47), .mov (.t 8), none⟩,
    ⟨(some 48), .call .pure false (.f 203) [.t 46, .t 47], none⟩,
    ⟨(some 49), .call .pure false (.f 172) [.c (.bool false), .t 48], none⟩,
    ⟨(some 50), .fld 1 .one (.t 49), none⟩,
    ⟨(some 11), .mov (.t 50), none⟩] false [4, 5, 8, 9, 10, 11])
 (.seq
  (.region [] [] [
    ⟨(some 51), .mkSl [.int .u64 0] .one 0 [], none⟩,
    ⟨(some 52), .mov (.t 11), none⟩,
    ⟨(some 53), .appN .one 8 (.t 51) (.t 52), none⟩,
    ⟨(some 11), .mov (.t 53), none⟩] false [4, 5, 8, 9, 10, 11])
 (.seq
  (.seq
   (.region [] [] [
     ⟨(some 54), .mov (.t 8), none⟩,
     ⟨(some 12), .mov (.t 54), none⟩] false [4, 5, 9, 10, 11, 12])
   (.block 0
    (.loop
     (.seq
      (.seq
       (.region [] [] [
         ⟨(some 55), .mov (.t 12), none⟩,
         ⟨(some 56), .bin .geq 0 (.t 55) (.c (.int .i64 0)), none⟩] false [4, 5, 9, 10, 11, 12, 56])
       (.cond (.t 56)
        .skip
        (.exit 0)
        [4, 5, 9, 10, 11, 12]))
     (.seq
      (.block 1
       (.seq
        (.region [] [] [
          ⟨(some 59), .mov (.t 11), none⟩,
          ⟨(some 60), .call .inl false (.f 172) [.c (.bool false), .t 59], none⟩,
          ⟨(some 13), .alloc [.bool false, .slT true []], none⟩,
          ⟨none, .store 2 (.t 13) (.t 60), none⟩] false [4, 5, 9, 10, 11, 12, 13])
       (.seq
        (.seq
         (.region [] [] [
           ⟨(some 61), .fldA 1 .one (.t 10), none⟩,
           ⟨(some 62), .load .one (.t 61), none⟩,
           ⟨(some 63), .fldA 1 .one (.t 13), none⟩,
           ⟨(some 64), .load .one (.t 63), none⟩,
           ⟨(some 65), .call .bor false (.f 169) [.t 62, .t 64], none⟩,
           ⟨(some 66), .bin .geq 0 (.t 65) (.c (.int .i64 0)), none⟩] false [4, 5, 9, 10, 11, 12, 13, 66])
         (.cond (.t 66)
          (.seq
           (.region [] [] [
             ⟨(some 67), .fldA 1 .one (.t 10), none⟩,
             ⟨(some 68), .load .one (.t 67), none⟩,
             ⟨(some 69), .fldA 1 .one (.t 13), none⟩,
             ⟨(some 70), .load .one (.t 69), none⟩,
             ⟨(some 71), .call .bor false (.f 204) [.t 68, .t 70], none⟩,
             ⟨(some 72), .call .pure false (.f 172) [.c (.bool false), .t 71], none⟩,
             ⟨none, .store 2 (.t 10) (.t 72), none⟩] false [4, 5, 9, 10, 11, 12])
           (.region [] [] [
             ⟨(some 73), .mov (.t 9), none⟩,
             ⟨(some 74), .mov (.t 12), none⟩,
             ⟨(some 75), .bin .quo 0 (.t 74) (.c (.int .i64 64)), none⟩,
             ⟨(some 76), .idxS .one (.t 73) (.t 75), none⟩,
             ⟨(some 77), .load .one (.t 76), none⟩,
             ⟨(some 78), .mov (.t 12), none⟩,
             ⟨(some 79), .bin .rem 0 (.t 78) (.c (.int .i64 64)), none⟩,
             ⟨(some 80), .conv .u64 (.t 79), none⟩,
             ⟨(some 81), .bin .shl 0 (.c (.int .u64 1)) (.t 80), none⟩,
             ⟨(some 82), .bin .or 0 (.t 77) (.t 81), none⟩,
             ⟨(some 83), .idxS .one (.t 73) (.t 75), none⟩,
             ⟨none, .store 1 (.t 83) (.t 82), none⟩] false [4, 5, 9, 10, 11, 12]))
          .skip
          [4, 5, 9, 10, 11, 12]))
        (.region [] [] [
          ⟨(some 84), .mov (.t 11), none⟩,
          ⟨(some 85), .call .inl false (.f 202) [.t 84], none⟩] false [4, 5, 9, 10, 11, 12])))
       [4, 5, 9, 10, 11, 12])
      (.region [] [] [
        ⟨(some 57), .mov (.t 12), none⟩,
        ⟨(some 58), .bin .sub 0 (.t 57) (.c (.int .i64 1)), none⟩,
        ⟨(some 12), .mov (.t 58), none⟩] false [4, 5, 9, 10, 11, 12])))
     [4, 5, 9, 10, 11, 12])
    [4, 5, 9, 10]))
 (.seq
  (.region [9] [(10, 4)] [
    ⟨(some 86), .mov (.t 9), none⟩,
    ⟨(some 87), .call .pure false (.f 172) [.c (.bool false), .t 86], none⟩,
    ⟨(some 88), .load (.many 2) (.t 10), none⟩,
    ⟨none, .store 2 (.t 4) (.t 87), none⟩,
    ⟨none, .store 2 (.t 5) (.t 88), none⟩] true [4, 5])
  .ret)))))))))),
 [.cell 4 (.many 2), .cell 5 (.many 2)]⟩
/-- (spokeshave/num.Int).Add -/
def a236 : AFunc := ⟨
 (.seq
  (.region [] [] [
    ⟨(some 2), .box (.t 0), none⟩,
    ⟨(some 3), .box (.t 1), none⟩,
    ⟨(some 4), .alloc [.bool false, .slT true []], none⟩] false [2, 3, 4])
 (.seq
  (.block 0
   (.seq
    (.region [] [] [
      ⟨(some 6), .fldA 0 .one (.t 2), none⟩,
      ⟨(some 7), .load .one (.t 6), none⟩,
      ⟨(some 8), .fldA 0 .one (.t 3), none⟩,
      ⟨(some 9), .load .one (.t 8), none⟩,
      ⟨(some 10), .bin .eql 1 (.t 7) (.t 9), none⟩,
      ⟨(some 5), .mov (.t 10), none⟩] false [2, 3, 4, 5])
    (.cond (.t 5)
     (.seq
      (.region [] [] [
        ⟨(some 11), .fldA 0 .one (.t 2), none⟩,
        ⟨(some 12), .load .one (.t 11), none⟩,
        ⟨(some 13), .fldA 1 .one (.t 2), none⟩,
        ⟨(some 14), .load .one (.t 13), none⟩,
        ⟨(some 15), .fldA 1 .one (.t 3), none⟩,
        ⟨(some 16), .load .one (.t 15), none⟩,
        ⟨(some 17), .call .pure false (.f 256) [.t 14, .t 16], none⟩,
        ⟨(some 18), .call .pure false (.f 172) [.t 12, .t 17], none⟩,
        ⟨none, .store 2 (.t 4) (.t 18), none⟩] true [4])
      .ret)
     (.seq
      (.region [] [] [
        ⟨(some 20), .fldA 1 .one (.t 2), none⟩,
        ⟨(some 21), .load .one (.t 20), none⟩,
        ⟨(some 22), .fldA 1 .one (.t 3), none⟩,
        ⟨(some 23), .load .one (.t 22), none⟩,
        ⟨(some 24), .call .pure false (.f 169) [.t 21, .t 23], none⟩,
        ⟨(some 25), .bin .geq 0 (.t 24) (.c (.int .i64 0)), none⟩,
        ⟨(some 19), .mov (.t 25), none⟩] false [2, 3, 4, 19])
      (.cond (.t 19)
       (.seq
        (.region [] [] [
          ⟨(some 26), .fldA 0 .one (.t 2), none⟩,
          ⟨(some 27), .load .one (.t 26), none⟩,
          ⟨(some 28), .fldA 1 .one (.t 2), none⟩,
          ⟨(some 29), .load .one (.t 28), none⟩,
          ⟨(some 30), .fldA 1 .one (.t 3), none⟩,
          ⟨(some 31), .load .one (.t 30), none⟩,
          ⟨(some 32), .call .pure false (.f 204) [.t 29, .t 31], none⟩,
          ⟨(some 33), .call .pure false (.f 172) [.t 27, .t 32], none⟩,
          ⟨none, .store 2 (.t 4) (.t 33), none⟩] true [4])
        .ret)
       .skip
       [2, 3, 4]))
     [2, 3, 4]))
   [2, 3, 4])
 (.seq
  (.region [] [] [
    ⟨(some 34), .fldA 0 .one (.t 3), none⟩,
    ⟨(some 35), .load .one (.t 34), none⟩,
    ⟨(some 36), .fldA 1 .one (.t 3), none⟩,
    ⟨(some 37), .load .one (.t 36), none⟩,
    ⟨(some 38), .fldA 1 .one (.t 2), none⟩,
    ⟨(some 39), .load .one (.t 38), none⟩,
    ⟨(some 40), .call .pure false (.f 204) [.t 37, .t 39], none⟩,
    ⟨(some 41), .call .pure false (.f 172) [.t 35, .t 40], none⟩,
    ⟨none, .store 2 (.t 4) (.t 41), none⟩] true [4])
  .ret))),
 [.cell 4 (.many 2)]⟩
/-- (spokeshave/num.Rat).Add -/
def a237 : AFunc := ⟨
 (.seq
  (.region [] [] [
    ⟨(some 2), .box (.t 0), none⟩,
    ⟨(some 3), .box (.t 1), none⟩,
    ⟨(some 4), .alloc [.bool false, .slT true [], .bool false, .slT true []], none⟩] false [2, 3, 4])
 (.seq
  (.region [] [] [
    ⟨(some 5), .fldA 0 (.many 2) (.t 2), none⟩,
    ⟨(some 6), .load (.many 2) (.t 5), none⟩,
    ⟨(some 7), .fldA 2 (.many 2) (.t 3), none⟩,
    ⟨(some 8), .load (.many 2) (.t 7), none⟩,
    ⟨(some 9), .call .pure false (.f 173) [.t 6, .t 8], none⟩,
    ⟨(some 10), .fldA 0 (.many 2) (.t 3), none⟩,
    ⟨(some 11), .load (.many 2) (.t 10), none⟩,
    ⟨(some 12), .fldA 2 (.many 2) (.t 2), none⟩,
    ⟨(some 13), .load (.many 2) (.t 12), none⟩,
    ⟨(some 14), .call .pure false (.f 173) [.t 11, .t 13], none⟩,
    ⟨(some 15), .call .pure false (.f 236) [.t 9, .t 14], none⟩,
    ⟨(some 16), .fldA 2 (.many 2) (.t 2), none⟩,
    ⟨(some 17), .load (.many 2) (.t 16), none⟩,
    ⟨(some 18), .fldA 2 (.many 2) (.t 3), none⟩,
    ⟨(some 19), .load (.many 2) (.t 18), none⟩,
    ⟨(some 20), .call .pure false (.f 173) [.t 17, .t 19], none⟩,
    ⟨(some 21), .call .pure false (.f 119) [.t 15, .t 20], none⟩,
    ⟨none, .store 4 (.t 4) (.t 21), none⟩] true [4])
  .ret)),
 [.cell 4 (.many 4)]⟩
/-- (spokeshave/num.Rat).Neg -/
def a238 : AFunc := ⟨
 (.seq
  (.region [] [] [
    ⟨(some 1), .box (.t 0), none⟩,
    ⟨(some 2), .alloc [.bool false, .slT true [], .bool false, .slT true []], none⟩] false [1, 2])
 (.seq
  (.region [] [] [
    ⟨(some 3), .fldA 0 (.many 2) (.t 1), none⟩,
    ⟨(some 4), .load (.many 2) (.t 3), none⟩,
    ⟨(some 5), .call .pure false (.f 168) [.t 4], none⟩,
    ⟨(some 6), .fldA 2 (.many 2) (.t 1), none⟩,
    ⟨(some 7), .load (.many 2) (.t 6), none⟩,
    ⟨(some 8), .build [.bool false, .slT true [], .bool false, .slT true []] [(0, 2, .t 5), (2, 2, .t 7)], none⟩,
    ⟨none, .store 4 (.t 2) (.t 8), none⟩] true [2])
  .ret)),
 [.cell 2 (.many 4)]⟩
/-- slices.siftDownCmpFunc[[]spokeshave/profile.Spot] -/
def a251 : AFunc := ⟨
 (.seq
  (.region [] [] [
    ⟨(some 12), .mov (.t 1), none⟩,
    ⟨(some 10), .mov (.t 12), none⟩] false [0, 2, 3, 4, 10])
  (.block 0
   (.loop
    (.block 1
     (.seq
      (.region [] [] [
        ⟨(some 13), .mov (.t 10), none⟩,
        ⟨(some 14), .bin .mul 0 (.c (.int .i64 2)) (.t 13), none⟩,
        ⟨(some 15), .bin .add 0 (.t 14) (.c (.int .i64 1)), none⟩,
        ⟨(some 11), .mov (.t 15), none⟩] false [0, 2, 3, 4, 10, 11])
     (.seq
      (.seq
       (.region [] [] [
         ⟨(some 16), .mov (.t 11), none⟩,
         ⟨(some 17), .mov (.t 2), none⟩,
         ⟨(some 18), .bin .geq 0 (.t 16) (.t 17), none⟩] false [0, 2, 3, 4, 10, 11, 18])
       (.cond (.t 18)
        (.exit 0)
        .skip
        [0, 2, 3, 4, 10, 11]))
     (.seq
      (.seq
       (.region [] [] [
         ⟨(some 19), .mov (.t 11), none⟩,
         ⟨(some 20), .bin .add 0 (.t 19) (.c (.int .i64 1)), none⟩,
         ⟨(some 21), .mov (.t 2), none⟩,
         ⟨(some 22), .bin .lss 0 (.t 20) (.t 21), none⟩,
         ⟨(some 23), .mov (.t 22), none⟩,
         ⟨(some 24), .mov (.t 4), (some (23, true))⟩,
         ⟨(some 25), .mov (.t 0), (some (23, true))⟩,
         ⟨(some 26), .mov (.t 3), (some (23, true))⟩,
         ⟨(some 27), .mov (.t 11), (some (23, true))⟩,
         ⟨(some 28), .bin .add 0 (.t 26) (.t 27), (some (23, true))⟩,
         ⟨(some 29), .idxS .one (.t 25) (.t 28), (some (23, true))⟩,
         ⟨(some 30), .load .one (.t 29), (some (23, true))⟩,
         ⟨(some 31), .mov (.t 0), (some (23, true))⟩,
         ⟨(some 32), .mov (.t 3), (some (23, true))⟩,
         ⟨(some 33), .mov (.t 11), (some (23, true))⟩,
         ⟨(some 34), .bin .add 0 (.t 32) (.t 33), (some (23, true))⟩,
         ⟨(some 35), .bin .add 0 (.t 34) (.c (.int .i64 1)), (some (23, true))⟩,
         ⟨(some 36), .idxS .one (.t 31) (.t 35), (some (23, true))⟩,
         ⟨(some 37), .load .one (.t 36), (some (23, true))⟩,
         ⟨(some 38), .call .auto false (.t 24) [.t 30, .t 37], (some (23, true))⟩,
         ⟨(some 39), .bin .lss 0 (.t 38) (.c (.int .i64 0)), (some (23, true))⟩,
         ⟨(some 40), .pick (.t 23) (.t 39) (.c (.bool false)), none⟩] true [0, 2, 3, 4, 10, 11, 40])
       (.cond (.t 40)
        (.region [] [] [
          ⟨(some 41), .mov (.t 11), none⟩,
          ⟨(some 42), .bin .add 0 (.t 41) (.c (.int .i64 1)), none⟩,
          ⟨(some 11), .mov (.t 42), none⟩] false [0, 2, 3, 4, 10, 11])
        .skip
        [0, 2, 3, 4, 10, 11]))
     (.seq
      (.seq
       (.region [] [] [
         ⟨(some 43), .mov (.t 4), none⟩,
         ⟨(some 44), .mov (.t 0), none⟩,
         ⟨(some 45), .mov (.t 3), none⟩,
         ⟨(some 46), .mov (.t 10), none⟩,
         ⟨(some 47), .bin .add 0 (.t 45) (.t 46), none⟩,
         ⟨(some 48), .idxS .one (.t 44) (.t 47), none⟩,
         ⟨(some 49), .load .one (.t 48), none⟩,
         ⟨(some 50), .mov (.t 0), none⟩,
         ⟨(some 51), .mov (.t 3), none⟩,
         ⟨(some 52), .mov (.t 11), none⟩,
         ⟨(some 53), .bin .add 0 (.t 51) (.t 52), none⟩,
         ⟨(some 54), .idxS .one (.t 50) (.t 53), none⟩,
         ⟨(some 55), .load .one (.t 54), none⟩,
         ⟨(some 56), .call .auto false (.t 43) [.t 49, .t 55], none⟩,
         ⟨(some 57), .bin .lss 0 (.t 56) (.c (.int .i64 0)), none⟩,
         ⟨(some 58), .un .not (.t 57), none⟩] true [0, 2, 3, 4, 10, 11, 58])
       (.cond (.t 58)
        .ret
        .skip
        [0, 2, 3, 4, 10, 11]))
     (.seq
      (.region [] [] [
        ⟨(some 59), .mov (.t 0), none⟩,
        ⟨(some 60), .mov (.t 3), none⟩,
        ⟨(some 61), .mov (.t 10), none⟩,
        ⟨(some 62), .bin .add 0 (.t 60) (.t 61), none⟩,
        ⟨(some 63), .mov (.t 0), none⟩,
        ⟨(some 64), .mov (.t 3), none⟩,
        ⟨(some 65), .mov (.t 11), none⟩,
        ⟨(some 66), .bin .add 0 (.t 64) (.t 65), none⟩,
        ⟨(some 67), .mov (.t 0), none⟩,
        ⟨(some 68), .mov (.t 3), none⟩,
        ⟨(some 69), .mov (.t 11), none⟩,
        ⟨(some 70), .bin .add 0 (.t 68) (.t 69), none⟩,
        ⟨(some 71), .idxS .one (.t 67) (.t 70), none⟩,
        ⟨(some 72), .load .one (.t 71), none⟩,
        ⟨(some 73), .mov (.t 0), none⟩,
        ⟨(some 74), .mov (.t 3), none⟩,
        ⟨(some 75), .mov (.t 10), none⟩,
        ⟨(some 76), .bin .add 0 (.t 74) (.t 75), none⟩,
        ⟨(some 77), .idxS .one (.t 73) (.t 76), none⟩,
        ⟨(some 78), .load .one (.t 77), none⟩,
        ⟨(some 79), .idxS .one (.t 59) (.t 62), none⟩,
        ⟨none, .store 1 (.t 79) (.t 72), none⟩,
        ⟨(some 80), .idxS .one (.t 63) (.t 66), none⟩,
        ⟨none, .store 1 (.t 80) (.t 78), none⟩] true [0, 2, 3, 4, 11])
      (.region [] [] [
        ⟨(some 81), .mov (.t 11), none⟩,
        ⟨(some 10), .mov (.t 81), none⟩] false [0, 2, 3, 4, 10]))))))
     [0, 2, 3, 4, 10])
    [0, 2, 3, 4, 10])
   [])),
 []⟩
/-- slices.medianAdjacentCmpFunc[[]spokeshave/profile.Spot] -/
def a252 : AFunc := ⟨
 (.seq
  (.region [] [] [
    ⟨(some 8), .mov (.c (.int .i64 0)), none⟩] false [0, 1, 2, 3])
 (.seq
  (.region [] [] [
    ⟨(some 9), .mov (.t 0), none⟩,
    ⟨(some 10), .mov (.t 1), none⟩,
    ⟨(some 11), .bin .sub 0 (.t 10) (.c (.int .i64 1)), none⟩,
    ⟨(some 12), .mov (.t 1), none⟩,
    ⟨(some 13), .mov (.t 1), none⟩,
    ⟨(some 14), .bin .add 0 (.t 13) (.c (.int .i64 1)), none⟩,
    ⟨(some 15), .mov (.t 2), none⟩,
    ⟨(some 16), .mov (.t 3), none⟩,
    ⟨(some 17), .call .inl false (.f 253) [.t 9, .t 11, .t 12, .t 14, .t 15, .t 16], none⟩,
    ⟨(some 8), .mov (.t 17), none⟩] false [8])
  .ret)),
 [.t 8]⟩
/-- slices.medianCmpFunc[[]spokeshave/profile.Spot] -/
def a253 : AFunc := ⟨
 (.seq
  (.region [] [] [
    ⟨(some 12), .mov (.c (.int .i64 0)), none⟩] false [0, 1, 2, 3, 4, 5])
 (.seq
  (.region [] [] [
    ⟨(some 14), .mov (.t 0), none⟩,
    ⟨(some 15), .mov (.t 1), none⟩,
    ⟨(some 16), .mov (.t 2), none⟩,
    ⟨(some 17), .mov (.t 4), none⟩,
    ⟨(some 18), .mov (.t 5), none⟩,
    ⟨(some 19), .call .inl false (.f 261) [.t 14, .t 15, .t 16, .t 17, .t 18], none⟩,
    ⟨(some 13), .mov (.t 19), none⟩,
    ⟨(some 20), .ext 0 (.t 13), none⟩,
    ⟨(some 21), .ext 1 (.t 13), none⟩,
    ⟨(some 1), .mov (.t 20), none⟩,
    ⟨(some 2), .mov (.t 21), none⟩] false [0, 1, 2, 3, 4, 5])
 (.seq
  (.region [] [] [
    ⟨(some 23), .mov (.t 0), none⟩,
    ⟨(some 24), .mov (.t 2), none⟩,
    ⟨(some 25), .mov (.t 3), none⟩,
    ⟨(some 26), .mov (.t 4), none⟩,
    ⟨(some 27), .mov (.t 5), none⟩,
    ⟨(some 28), .call .inl false (.f 261) [.t 23, .t 24, .t 25, .t 26, .t 27], none⟩,
    ⟨(some 22), .mov (.t 28), none⟩,
    ⟨(some 29), .ext 0 (.t 22), none⟩,
    ⟨(some 30), .ext 1 (.t 22), none⟩,
    ⟨(some 2), .mov (.t 29), none⟩,
    ⟨(some 3), .mov (.t 30), none⟩] false [0, 1, 2, 4, 5])
 (.seq
  (.region [] [] [
    ⟨(some 32), .mov (.t 0), none⟩,
    ⟨(some 33), .mov (.t 1), none⟩,
    ⟨(some 34), .mov (.t 2), none⟩,
    ⟨(some 35), .mov (.t 4), none⟩,
    ⟨(some 36), .mov (.t 5), none⟩,
    ⟨(some 37), .call .inl false (.f 261) [.t 32, .t 33, .t 34, .t 35, .t 36], none⟩,
    ⟨(some 31), .mov (.t 37), none⟩,
    ⟨(some 38), .ext 0 (.t 31), none⟩,
    ⟨(some 39), .ext 1 (.t 31), none⟩,
    ⟨(some 1), .mov (.t 38), none⟩,
    ⟨(some 2), .mov (.t 39), none⟩] false [2])
 (.seq
  (.region [] [] [
    ⟨(some 40), .mov (.t 2), none⟩,
    ⟨(some 12), .mov (.t 40), none⟩] false [12])
  .ret))))),
 [.t 12]⟩
/-- spokeshave/num.byWord -/
def a254 : AFunc := ⟨
 (.seq
  (.region [] [] [
    ⟨(some 4), .nilv .one, none⟩,
    ⟨(some 5), .mov (.c (.int .u64 0)), none⟩] false [0, 1])
 (.seq
  (.region [] [] [
    ⟨(some 9), .mov (.t 0), none⟩,
    ⟨(some 10), .len (.t 9), none⟩,
    ⟨(some 11), .mkSlice [.int .u64 0] .one 8 (.t 10) (.t 10), none⟩,
    ⟨(some 6), .mov (.t 11), none⟩] false [0, 1, 6])
 (.seq
  (.region [] [] [
    ⟨(some 7), .mov (.c (.int .u64 0)), none⟩] false [0, 1, 6, 7])
 (.seq
  (.seq
   (.region [] [] [
     ⟨(some 12), .mov (.t 0), none⟩,
     ⟨(some 13), .len (.t 12), none⟩,
     ⟨(some 14), .bin .sub 0 (.t 13) (.c (.int .i64 1)), none⟩,
     ⟨(some 8), .mov (.t 14), none⟩] false [0, 1, 6, 7, 8])
   (.block 0
    (.loop
     (.seq
      (.seq
       (.region [] [] [
         ⟨(some 15), .mov (.t 8), none⟩,
         ⟨(some 16), .bin .geq 0 (.t 15) (.c (.int .i64 0)), none⟩] false [0, 1, 6, 7, 8, 16])
       (.cond (.t 16)
        .skip
        (.exit 0)
        [0, 1, 6, 7, 8]))
     (.seq
      (.block 1
       (.region [] [] [
         ⟨(some 20), .mov (.t 6), none⟩,
         ⟨(some 21), .mov (.t 8), none⟩,
         ⟨(some 22), .mov (.t 7), none⟩,
         ⟨(some 23), .mov (.t 0), none⟩,
         ⟨(some 24), .mov (.t 8), none⟩,
         ⟨(some 25), .idxS .one (.t 23) (.t 24), none⟩,
         ⟨(some 26), .load .one (.t 25), none⟩,
         ⟨(some 27), .mov (.t 1), none⟩,
         ⟨(some 28), .call .pure false (.f 262) [.t 22, .t 26, .t 27], none⟩,
         ⟨(some 19), .mov (.t 28), none⟩,
         ⟨(some 29), .ext 0 (.t 19), none⟩,
         ⟨(some 30), .ext 1 (.t 19), none⟩,
         ⟨(some 31), .idxS .one (.t 20) (.t 21), none⟩,
         ⟨none, .store 1 (.t 31) (.t 29), none⟩,
         ⟨(some 7), .mov (.t 30), none⟩] false [0, 1, 6, 7, 8])
       [0, 1, 6, 7, 8])
      (.region [] [] [
        ⟨(some 17), .mov (.t 8), none⟩,
        ⟨(some 18), .bin .sub 0 (.t 17) (.c (.int .i64 1)), none⟩,
        ⟨(some 8), .mov (.t 18), none⟩] false [0, 1, 6, 7, 8])))
     [0, 1, 6, 7, 8])
    [6, 7]))
 (.seq
  (.region [] [] [
    ⟨(some 32), .mov (.t 6), none⟩,
    ⟨(some 33), .mov (.t 7), none⟩,
    ⟨(some 4), .mov (.t 32), none⟩,
    ⟨(some 5), .mov (.t 33), none⟩] false [4, 5])
  .ret))))),
 [.t 4, .t 5]⟩
/-- spokeshave/num.length -/
def a255 : AFunc := ⟨
 (.seq
  (.region [] [] [
    ⟨(some 2), .mov (.c (.int .i64 0)), none⟩] false [0])
 (.seq
  (.seq
   (.region [] [] [
     ⟨(some 3), .mov (.t 0), none⟩,
     ⟨(some 4), .len (.t 3), none⟩,
     ⟨(some 5), .bin .eql 0 (.t 4) (.c (.int .i64 0)), none⟩] false [0, 5])
   (.cond (.t 5)
    (.seq
     (.region [] [] [
       ⟨(some 2), .mov (.c (.int .i64 0)), none⟩] false [2])
     .ret)
    .skip
    [0]))
 (.seq
  (.region [] [] [
    ⟨(some 6), .mov (.t 0), none⟩,
    ⟨(some 7), .len (.t 6), none⟩,
    ⟨(some 8), .bin .mul 0 (.c (.int .i64 64)) (.t 7), none⟩,
    ⟨(some 9), .mov (.t 0), none⟩,
    ⟨(some 10), .mov (.t 0), none⟩,
    ⟨(some 11), .len (.t 10), none⟩,
    ⟨(some 12), .bin .sub 0 (.t 11) (.c (.int .i64 1)), none⟩,
    ⟨(some 13), .idxS .one (.t 9) (.t 12), none⟩,
    ⟨(some 14), .load .one (.t 13), none⟩,
    ⟨(some 15), .call .pure false (.f 263) [.t 14], none⟩,
    ⟨(some 16), .bin .sub 0 (.t 8) (.t 15), none⟩,
    ⟨(some 2), .mov (.t 16), none⟩] false [2])
  .ret))),
 [.t 2]⟩
/-- spokeshave/num.plus -/
def a256 : AFunc := ⟨
 (.seq
  (.region [] [] [
    ⟨(some 4), .nilv .one, none⟩] false [0, 1])
 (.seq
  (.seq
   (.region [] [] [
     ⟨(some 11), .mov (.t 0), none⟩,
     ⟨(some 12), .len (.t 11), none⟩,
     ⟨(some 13), .mov (.t 1), none⟩,
     ⟨(some 14), .len (.t 13), none⟩,
     ⟨(some 15), .bin .lss 0 (.t 12) (.t 14), none⟩] false [0, 1, 15])
   (.cond (.t 15)
    (.region [] [] [
      ⟨(some 16), .mov (.t 1), none⟩,
      ⟨(some 17), .mov (.t 0), none⟩,
      ⟨(some 0), .mov (.t 16), none⟩,
      ⟨(some 1), .mov (.t 17), none⟩] false [0, 1])
    .skip
    [0, 1]))
 (.seq
  (.region [] [] [
    ⟨(some 18), .mov (.t 0), none⟩,
    ⟨(some 19), .len (.t 18), none⟩,
    ⟨(some 20), .bin .add 0 (.t 19) (.c (.int .i64 1)), none⟩,
    ⟨(some 21), .mkSlice [.int .u64 0] .one 8 (.c (.int .i64 0)) (.t 20), none⟩,
    ⟨(some 5), .mov (.t 21), none⟩] false [0, 1, 5])
 (.seq
  (.region [] [] [
    ⟨(some 6), .mov (.c (.int .u64 0)), none⟩] false [0, 1, 5, 6])
 (.seq
  (.seq
   (.region [] [] [
     ⟨(some 22), .mov (.t 0), none⟩,
     ⟨(some 23), .len (.t 22), none⟩,
     ⟨(some 24), .mov (.c (.int .i64 0)), none⟩] false [1, 5, 6, 22, 23, 24])
   (.block 0
    (.loop
     (.seq
      (.region [] [] [
        ⟨(some 25), .bin .lss 0 (.t 24) (.t 23), none⟩] false [1, 5, 6, 22, 23, 24, 25])
     (.seq
      (.cond (.t 25)
       .skip
       (.exit 0)
       [1, 5, 6, 22, 23, 24])
     (.seq
      (.block 1
       (.seq
        (.region [] [] [
          ⟨(some 26), .mov (.t 24), none⟩,
          ⟨(some 27), .idxS .one (.t 22) (.t 24), none⟩,
          ⟨(some 28), .load .one (.t 27), none⟩,
          ⟨(some 7), .mov (.t 26), none⟩,
          ⟨(some 8), .mov (.t 28), none⟩] false [1, 5, 6, 7, 8, 22, 23, 24])
       (.seq
        (.region [] [] [
          ⟨(some 9), .mov (.c (.int .u64 0)), none⟩] false [1, 5, 6, 7, 8, 9, 22, 23, 24])
       (.seq
        (.seq
         (.region [] [] [
           ⟨(some 29), .mov (.t 7), none⟩,
           ⟨(some 30), .mov (.t 1), none⟩,
           ⟨(some 31), .len (.t 30), none⟩,
           ⟨(some 32), .bin .lss 0 (.t 29) (.t 31), none⟩] false [1, 5, 6, 7, 8, 9, 22, 23, 24, 32])
         (.cond (.t 32)
          (.region [] [] [
            ⟨(some 33), .mov (.t 1), none⟩,
            ⟨(some 34), .mov (.t 7), none⟩,
            ⟨(some 35), .idxS .one (.t 33) (.t 34), none⟩,
            ⟨(some 36), .load .one (.t 35), none⟩,
            ⟨(some 9), .mov (.t 36), none⟩] false [1, 5, 6, 8, 9, 22, 23, 24])
          .skip
          [1, 5, 6, 8, 9, 22, 23, 24]))
       (.seq
        (.region [] [] [
          ⟨(some 10), .mov (.c (.int .u64 0)), none⟩] false [1, 5, 6, 8, 9, 22, 23, 24])
       (.seq
        (.region [] [] [
          ⟨(some 38), .mov (.t 8), none⟩,
          ⟨(some 39), .mov (.t 9), none⟩,
          ⟨(some 40), .mov (.t 6), none⟩,
          ⟨(some 41), .call .pure false (.f 207) [.t 38, .t 39, .t 40], none⟩,
          ⟨(some 37), .mov (.t 41), none⟩,
          ⟨(some 42), .ext 0 (.t 37), none⟩,
          ⟨(some 43), .ext 1 (.t 37), none⟩,
          ⟨(some 10), .mov (.t 42), none⟩,
          ⟨(some 6), .mov (.t 43), none⟩] false [1, 5, 6, 10, 22, 23, 24])
        (.region [] [] [
          ⟨(some 44), .mov (.t 5), none⟩,
          ⟨(some 45), .mov (.t 10), none⟩,
          ⟨(some 46), .mkSl [.int .u64 0] .one 1 [(0, .t 45)], none⟩,
          ⟨(some 47), .app .one 8 (.t 44) (.t 46), none⟩,
          ⟨(some 5), .mov (.t 47), none⟩] false [1, 5, 6, 22, 23, 24]))))))
       [1, 5, 6, 22, 23, 24])
      (.region [] [] [
        ⟨(some 48), .bin .add 0 (.t 24) (.c (.int .i64 1)), none⟩,
        ⟨(some 24), .mov (.t 48), none⟩] false [1, 5, 6, 22, 23, 24]))))
     [1, 5, 6, 22, 23, 24])
    [5, 6]))
 (.seq
  (.region [] [] [
    ⟨(some 49), .mov (.t 5), none⟩,
    ⟨(some 50), .mov (.t 6), none⟩,
    ⟨(some 51), .mkSl [.int .u64 0] .one 1 [(0, .t 50)], none⟩,
    ⟨(some 52), .app .one 8 (.t 49) (.t 51), none⟩,
    ⟨(some 4), .mov (.t 52), none⟩] false [4])
  .ret)))))),
 [.t 4]⟩
/-- slices.order2CmpFunc[[]spokeshave/profile.Spot] -/
def a261 : AFunc := ⟨
 (.seq
  (.region [] [] [
    ⟨(some 10), .mov (.c (.int .i64 0)), none⟩,
    ⟨(some 11), .mov (.c (.int .i64 0)), none⟩] false [0, 1, 2, 3, 4])
 (.seq
  (.seq
   (.region [] [] [
     ⟨(some 12), .mov (.t 4), none⟩,
     ⟨(some 13), .mov (.t 0), none⟩,
     ⟨(some 14), .mov (.t 2), none⟩,
     ⟨(some 15), .idxS .one (.t 13) (.t 14), none⟩,
     ⟨(some 16), .load .one (.t 15), none⟩,
     ⟨(some 17), .mov (.t 0), none⟩,
     ⟨(some 18), .mov (.t 1), none⟩,
     ⟨(some 19), .idxS .one (.t 17) (.t 18), none⟩,
     ⟨(some 20), .load .one (.t 19), none⟩,
     ⟨(some 21), .call .auto false (.t 12) [.t 16, .t 20], none⟩,
     ⟨(some 22), .bin .lss 0 (.t 21) (.c (.int .i64 0)), none⟩] true [1, 2, 3, 22])
   (.cond (.t 22)
    (.seq
     (.region [] [] [
       ⟨(some 23), .mov (.t 3), none⟩,
       ⟨(some 24), .nilchk (.t 23), none⟩,
       ⟨(some 25), .load .one (.t 24), none⟩,
       ⟨(some 26), .bin .add 0 (.t 25) (.c (.int .i64 1)), none⟩,
       ⟨(some 27), .nilchk (.t 23), none⟩,
       ⟨none, .store 1 (.t 27) (.t 26), none⟩] false [1, 2])
    (.seq
     (.region [] [] [
       ⟨(some 28), .mov (.t 2), none⟩,
       ⟨(some 29), .mov (.t 1), none⟩,
       ⟨(some 10), .mov (.t 28), none⟩,
       ⟨(some 11), .mov (.t 29), none⟩] false [10, 11])
     .ret))
    .skip
    [1, 2]))
 (.seq
  (.region [] [] [
    ⟨(some 30), .mov (.t 1), none⟩,
    ⟨(some 31), .mov (.t 2), none⟩,
    ⟨(some 10), .mov (.t 30), none⟩,
    ⟨(some 11), .mov (.t 31), none⟩] false [10, 11])
  .ret))),
 [.t 10, .t 11]⟩
/-- math/bits.Div64 -/
def a262 : AFunc := ⟨
 (.seq
  (.region [] [] [
    ⟨(some 6), .mov (.c (.int .u64 0)), none⟩,
    ⟨(some 7), .mov (.c (.int .u64 0)), none⟩] false [0, 1, 2])
 (.seq
  (.seq
   (.region [] [] [
     ⟨(some 19), .mov (.t 2), none⟩,
     ⟨(some 20), .bin .eql 0 (.t 19) (.c (.int .u64 0)), none⟩] false [0, 1, 2, 20])
   (.cond (.t 20)
    (.region [] [] [
      ⟨(some 21), .stuck, none⟩,
      ⟨none, .stuck, none⟩] false [0, 1, 2])
    .skip
    [0, 1, 2]))
 (.seq
  (.seq
   (.region [] [] [
     ⟨(some 22), .mov (.t 2), none⟩,
     ⟨(some 23), .mov (.t 0), none⟩,
     ⟨(some 24), .bin .leq 0 (.t 22) (.t 23), none⟩] false [0, 1, 2, 24])
   (.cond (.t 24)
    (.region [] [] [
      ⟨(some 25), .stuck, none⟩,
      ⟨none, .stuck, none⟩] false [0, 1, 2])
    .skip
    [0, 1, 2]))
 (.seq
  (.seq
   (.region [] [] [
     ⟨(some 26), .mov (.t 0), none⟩,
     ⟨(some 27), .bin .eql 0 (.t 26) (.c (.int .u64 0)), none⟩] false [0, 1, 2, 27])
   (.cond (.t 27)
    (.seq
     (.region [] [] [
       ⟨(some 28), .mov (.t 1), none⟩,
       ⟨(some 29), .mov (.t 2), none⟩,
       ⟨(some 30), .bin .quo 0 (.t 28) (.t 29), none⟩,
       ⟨(some 31), .mov (.t 1), none⟩,
       ⟨(some 32), .mov (.t 2), none⟩,
       ⟨(some 33), .bin .rem 0 (.t 31) (.t 32), none⟩,
       ⟨(some 6), .mov (.t 30), none⟩,
       ⟨(some 7), .mov (.t 33), none⟩] true [6, 7])
     .ret)
    .skip
    [0, 1, 2]))
 (.seq
  (.region [] [] [
    ⟨(some 34), .mov (.t 2), none⟩,
    ⟨(some 35), .call .pure false (.f 263) [.t 34], none⟩,
    ⟨(some 36), .conv .u64 (.t 35), none⟩,
    ⟨(some 8), .mov (.t 36), none⟩] false [0, 1, 2, 8])
 (.seq
  (.region [] [] [
    ⟨(some 37), .mov (.t 2), none⟩,
    ⟨(some 38), .mov (.t 8), none⟩,
    ⟨(some 39), .bin .shl 0 (.t 37) (.t 38), none⟩,
    ⟨(some 2), .mov (.t 39), none⟩] false [0, 1, 2, 8])
 (.seq
  (.region [] [] [
    ⟨(some 40), .mov (.t 2), none⟩,
    ⟨(some 41), .bin .shr 0 (.t 40) (.c (.int .u64 32)), none⟩,
    ⟨(some 9), .mov (.t 41), none⟩] false [0, 1, 2, 8, 9])
 (.seq
  (.region [] [] [
    ⟨(some 42), .mov (.t 2), none⟩,
    ⟨(some 43), .bin .and 0 (.t 42) (.c (.int .u64 4294967295)), none⟩,
    ⟨(some 10), .mov (.t 43), none⟩] false [0, 1, 2, 8, 9, 10])
 (.seq
  (.region [] [] [
    ⟨(some 44), .mov (.t 0), none⟩,
    ⟨(some 45), .mov (.t 8), none⟩,
    ⟨(some 46), .bin .shl 0 (.t 44) (.t 45), none⟩,
    ⟨(some 47), .mov (.t 1), none⟩,
    ⟨(some 48), .mov (.t 8), none⟩,
    ⟨(some 49), .bin .sub 0 (.c (.int .u64 64)) (.t 48), none⟩,
    ⟨(some 50), .bin .shr 0 (.t 47) (.t 49), none⟩,
    ⟨(some 51), .bin .or 0 (.t 46) (.t 50), none⟩,
    ⟨(some 11), .mov (.t 51), none⟩] false [1, 2, 8, 9, 10, 11])
 (.seq
  (.region [] [] [
    ⟨(some 52), .mov (.t 1), none⟩,
    ⟨(some 53), .mov (.t 8), none⟩,
    ⟨(some 54), .bin .shl 0 (.t 52) (.t 53), none⟩,
    ⟨(some 12), .mov (.t 54), none⟩] false [2, 8, 9, 10, 11, 12])
 (.seq
  (.region [] [] [
    ⟨(some 55), .mov (.t 12), none⟩,
    ⟨(some 56), .bin .shr 0 (.t 55) (.c (.int .u64 32)), none⟩,
    ⟨(some 13), .mov (.t 56), none⟩] false [2, 8, 9, 10, 11, 12, 13])
 (.seq
  (.region [] [] [
    ⟨(some 57), .mov (.t 12), none⟩,
    ⟨(some 58), .bin .and 0 (.t 57) (.c (.int .u64 4294967295)), none⟩,
    ⟨(some 14), .mov (.t 58), none⟩] false [2, 8, 9, 10, 11, 13, 14])
 (.seq
  (.region [] [] [
    ⟨(some 59), .mov (.t 11), none⟩,
    ⟨(some 60), .mov (.t 9), none⟩,
    ⟨(some 61), .bin .quo 0 (.t 59) (.t 60), none⟩,
    ⟨(some 15), .mov (.t 61), none⟩] false [2, 8, 9, 10, 11, 13, 14, 15])
 (.seq
  (.region [] [] [
    ⟨(some 62), .mov (.t 11), none⟩,
    ⟨(some 63), .mov (.t 15), none⟩,
    ⟨(some 64), .mov (.t 9), none⟩,
    ⟨(some 65), .bin .mul 0 (.t 63) (.t 64), none⟩,
    ⟨(some 66), .bin .sub 0 (.t 62) (.t 65), none⟩,
    ⟨(some 16), .mov (.t 66), none⟩] false [2, 8, 9, 10, 11, 13, 14, 15, 16])
 (.seq
  (.block 0
   (.loop
    (.seq
     (.seq
      (.region [] [] [
        ⟨(some 67), .mov (.t 15), none⟩,
        ⟨(some 68), .bin .geq 0 (.t 67) (.c (.int .u64 4294967296)), none⟩,
        ⟨(some 69), .mov (.t 68), none⟩,
        ⟨(some 70), .mov (.t 15), (some (69, false))⟩,
        ⟨(some 71), .mov (.t 10), (some (69, false))⟩,
        ⟨(some 72), .bin .mul 0 (.t 70) (.t 71), (some (69, false))⟩,
        ⟨(some 73), .mov (.t 16), (some (69, false))⟩,
        ⟨(some 74), .bin .mul 0 (.c (.int .u64 4294967296)) (.t 73), (some (69, false))⟩,
        ⟨(some 75), .mov (.t 13), (some (69, false))⟩,
        ⟨(some 76), .bin .add 0 (.t 74) (.t 75), (some (69, false))⟩,
        ⟨(some 77), .bin .gtr 0 (.t 72) (.t 76), (some (69, false))⟩,
        ⟨(some 78), .pick (.t 69) (.c (.bool true)) (.t 77), none⟩] false [2, 8, 9, 10, 11, 13, 14, 15, 16, 78])
      (.cond (.t 78)
       .skip
       (.exit 0)
       [2, 8, 9, 10, 11, 13, 14, 15, 16]))
     (.block 1
      (.seq
       (.region [] [] [
         ⟨(some 79), .mov (.t 15), none⟩,
         ⟨(some 80), .bin .sub 0 (.t 79) (.c (.int .u64 1)), none⟩,
         ⟨(some 15), .mov (.t 80), none⟩] false [2, 8, 9, 10, 11, 13, 14, 15, 16])
      (.seq
       (.region [] [] [
         ⟨(some 81), .mov (.t 16), none⟩,
         ⟨(some 82), .mov (.t 9), none⟩,
         ⟨(some 83), .bin .add 0 (.t 81) (.t 82), none⟩,
         ⟨(some 16), .mov (.t 83), none⟩] false [2, 8, 9, 10, 11, 13, 14, 15, 16])
      (.seq
       (.region [] [] [
         ⟨(some 84), .mov (.t 16), none⟩,
         ⟨(some 85), .bin .geq 0 (.t 84) (.c (.int .u64 4294967296)), none⟩] false [2, 8, 9, 10, 11, 13, 14, 15, 16, 85])
       (.cond (.t 85)
        (.exit 0)
        .skip
        [2, 8, 9, 10, 11, 13, 14, 15, 16]))))
      [2, 8, 9, 10, 11, 13, 14, 15, 16]))
    [2, 8, 9, 10, 11, 13, 14, 15, 16])
   [2, 8, 9, 10, 11, 13, 14, 15])
 (.seq
  (.region [] [] [
    ⟨(some 86), .mov (.t 11), none⟩,
    ⟨(some 87), .bin .mul 0 (.t 86) (.c (.int .u64 4294967296)), none⟩,
    ⟨(some 88), .mov (.t 13), none⟩,
    ⟨(some 89), .bin .add 0 (.t 87) (.t 88), none⟩,
    ⟨(some 90), .mov (.t 15), none⟩,
    ⟨(some 91), .mov (.t 2), none⟩,
    ⟨(some 92), .bin .mul 0 (.t 90) (.t 91), none⟩,
    ⟨(some 93), .bin .sub 0 (.t 89) (.t 92), none⟩,
    ⟨(some 17), .mov (.t 93), none⟩] false [2, 8, 9, 10, 14, 15, 17])
 (.seq
  (.region [] [] [
    ⟨(some 94), .mov (.t 17), none⟩,
    ⟨(some 95), .mov (.t 9), none⟩,
    ⟨(some 96), .bin .quo 0 (.t 94) (.t 95), none⟩,
    ⟨(some 18), .mov (.t 96), none⟩] false [2, 8, 9, 10, 14, 15, 17, 18])
 (.seq
  (.region [] [] [
    ⟨(some 97), .mov (.t 17), none⟩,
    ⟨(some 98), .mov (.t 18), none⟩,
    ⟨(some 99), .mov (.t 9), none⟩,
    ⟨(some 100), .bin .mul 0 (.t 98) (.t 99), none⟩,
    ⟨(some 101), .bin .sub 0 (.t 97) (.t 100), none⟩,
    ⟨(some 16), .mov (.t 101), none⟩] false [2, 8, 9, 10, 14, 15, 16, 17, 18])
 (.seq
  (.block 2
   (.loop
    (.seq
     (.seq
      (.region [] [] [
        ⟨(some 102), .mov (.t 18), none⟩,
        ⟨(some 103), .bin .geq 0 (.t 102) (.c (.int .u64 4294967296)), none⟩,
        ⟨(some 104), .mov (.t 103), none⟩,
        ⟨(some 105), .mov (.t 18), (some (104, false))⟩,
        ⟨(some 106), .mov (.t 10), (some (104, false))⟩,
        ⟨(some 107), .bin .mul 0 (.t 105) (.t 106), (some (104, false))⟩,
        ⟨(some 108), .mov (.t 16), (some (104, false))⟩,
        ⟨(some 109), .bin .mul 0 (.c (.int .u64 4294967296)) (.t 108), (some (104, false))⟩,
        ⟨(some 110), .mov (.t 14), (some (104, false))⟩,
        ⟨(some 111), .bin .add 0 (.t 109) (.t 110), (some (104, false))⟩,
        ⟨(some 112), .bin .gtr 0 (.t 107) (.t 111), (some (104, false))⟩,
        ⟨(some 113), .pick (.t 104) (.c (.bool true)) (.t 112), none⟩] false [2, 8, 9, 10, 14, 15, 16, 17, 18, 113])
      (.cond (.t 113)
       .skip
       (.exit 2)
       [2, 8, 9, 10, 14, 15, 16, 17, 18]))
     (.block 3
      (.seq
       (.region [] [] [
         ⟨(some 114), .mov (.t 18), none⟩,
         ⟨(some 115), .bin .sub 0 (.t 114) (.c (.int .u64 1)), none⟩,
         ⟨(some 18), .mov (.t 115), none⟩] false [2, 8, 9, 10, 14, 15, 16, 17, 18])
      (.seq
       (.region [] [] [
         ⟨(some 116), .mov (.t 16), none⟩,
         ⟨(some 117), .mov (.t 9), none⟩,
         ⟨(some 118), .bin .add 0 (.t 116) (.t 117), none⟩,
         ⟨(some 16), .mov (.t 118), none⟩] false [2, 8, 9, 10, 14, 15, 16, 17, 18])
      (.seq
       (.region [] [] [
         ⟨(some 119), .mov (.t 16), none⟩,
         ⟨(some 120), .bin .geq 0 (.t 119) (.c (.int .u64 4294967296)), none⟩] false [2, 8, 9, 10, 14, 15, 16, 17, 18, 120])
       (.cond (.t 120)
        (.exit 2)
        .skip
        [2, 8, 9, 10, 14, 15, 16, 17, 18]))))
      [2, 8, 9, 10, 14, 15, 16, 17, 18]))
    [2, 8, 9, 10, 14, 15, 16, 17, 18])
   [2, 8, 14, 15, 17, 18])
 (.seq
  (.region [] [] [
    ⟨(some 121), .mov (.t 15), none⟩,
    ⟨(some 122), .bin .mul 0 (.t 121) (.c (.int .u64 4294967296)), none⟩,
    ⟨(some 123), .mov (.t 18), none⟩,
    ⟨(some 124), .bin .add 0 (.t 122) (.t 123), none⟩,
    ⟨(some 125), .mov (.t 17), none⟩,
    ⟨(some 126), .bin .mul 0 (.t 125) (.c (.int .u64 4294967296)), none⟩,
    ⟨(some 127), .mov (.t 14), none⟩,
    ⟨(some 128), .bin .add 0 (.t 126) (.t 127), none⟩,
    ⟨(some 129), .mov (.t 18), none⟩,
    ⟨(some 130), .mov (.t 2), none⟩,
    ⟨(some 131), .bin .mul 0 (.t 129) (.t 130), none⟩,
    ⟨(some 132), .bin .sub 0 (.t 128) (.t 131), none⟩,
    ⟨(some 133), .mov (.t 8), none⟩,
    ⟨(some 134), .bin .shr 0 (.t 132) (.t 133), none⟩,
    ⟨(some 6), .mov (.t 124), none⟩,
    ⟨(some 7), .mov (.t 134), none⟩] false [6, 7])
  .ret)))))))))))))))))))),
 [.t 6, .t 7]⟩
/-- math/bits.LeadingZeros64 -/
def a263 : AFunc := ⟨
 (.seq
  (.region [] [] [
    ⟨(some 2), .mov (.c (.int .i64 0)), none⟩] false [0])
 (.seq
  (.region [] [] [
    ⟨(some 3), .mov (.t 0), none⟩,
    ⟨(some 4), .call .pure false (.f 147) [.t 3], none⟩,
    ⟨(some 5), .bin .sub 0 (.c (.int .i64 64)) (.t 4), none⟩,
    ⟨(some 2), .mov (.t 5), none⟩] false [2])
  .ret)),
 [.t 2]⟩

end Go.Va
